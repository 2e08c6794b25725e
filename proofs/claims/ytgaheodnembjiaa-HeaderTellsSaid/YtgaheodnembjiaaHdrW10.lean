/- The walk of package header's reader: a long header. -/
import Derived.Test.YtgaheodnembjiaaHdrW9
namespace Hdr
open Go.Rw
theorem rfail_zero {is : Bool} {x : Int} {s : Nat × Int} (hx : x ≠ 0) (h : (rfail is x s).2 = 0) : is = false ∧ s.2 = 0 := by
  obtain ⟨a, e⟩ := s
  cases is
  · exact ⟨rfl, by simpa [rfail] using h⟩
  · by_cases he : e = 0
    · subst he; simp [rfail] at h; exact absurd h hx
    · simp [rfail, he] at h
theorem rtake_zero {b : List UInt8} {n : Nat} {s : Nat × Int} (h : (rtake b n s).1.2 = 0) : s.2 = 0 := by
  by_cases hs : s.2 = 0
  · exact hs
  · rw [rtake_bad hs] at h; exact h
theorem aRest_le (b : List UInt8) (k : Int) (s : Nat × Int) (h : s.1 ≤ b.length) : (aRest b k s).1.1 ≤ b.length := by
  have h1 : (aKind k s).1 ≤ b.length := by unfold aKind; rw [rfail_at]; exact h
  have h2 : (aVer b k s).1.1 ≤ b.length := rnum_le _ _ _ h1
  have h3 : (aDst b k s).1.1 ≤ b.length := rid_le _ _ _ _ h2
  have h4 : (aSrc b k s).1.1 ≤ b.length := rid_le _ _ _ _ h3
  have h5 : (aTokN b k s).1.1 ≤ b.length := rvar_le _ _ h4
  have h6 : (aTok b k s).1.1 ≤ b.length := by
    unfold aTok; split
    · exact rtake_le _ _ _ (by rw [rfail_at]; exact h5)
    · exact h4
  exact rvar_le _ _ h6
theorem aRest_lt (b : List UInt8) (k : Int) (s : Nat × Int) : (aRest b k s).2 < 18446744073709551616 := rvar_lt _ _
end Hdr
namespace Go.Proofs.Ytgaheodnembjiaa
open Go.RowKit Go.Rw Hdr
attribute [local go_sem ↓] hvA_0 hvA_1 hvA_2 hvA_3 hvA_4 hvA_5 hvA_6 hvA_7 hvA_8 hvA_9
attribute [local go_sem ↓] shift_shl8 shift_shr8 shift_shl64 shift_shr64

theorem min_int (r l : Nat) : min ((r : Nat) : Int) (l : Nat) = ((min r l : Nat) : Int) := by omega
theorem wrap_small (r : Nat) (h : r ≤ 1000000) : wrap64 ((r : Nat) : Int) = (r : Nat) := by unfold wrap64; omega
theorem wrap_min (r l : Nat) (h : l ≤ 1000000) : wrap64 ((min r l : Nat) : Int) = ((min r l : Nat) : Int) := by unfold wrap64; omega
set_option maxRecDepth 20000 in
set_option maxHeartbeats 2000000 in
theorem longs_any (b : List UInt8) (w0 w : World) (B Bh : Nat) (vb : Value) (s : Nat × Int) (f : UInt8) (long : Bool) (k0 : Int) (v0 : Nat) (sp ph : Bool) (num : Nat) (nl : Nat) (hnl : nl ≤ 4) (hb : b.length ≤ 1000000) (hat : s.1 ≤ b.length) (hs : Sl w0 vb b) (hw : Below w0.heap.size w0 w) (hB : w0.heap.size ≤ B) (hBh : w0.heap.size ≤ Bh) (hne : Bh ≠ B)
    (hr : row? w B = some (rd vb s)) (hh : row? w Bh = some (hvA long k0 v0 (.slice none 0 0) (.slice none 0 0) (.slice none 0 0) sp ph num nl)) (k : Int) (s1 : Nat × Int) (hk : k = (n8 f / 16 % 4 : Nat)) (hs1 : rfail (f &&& 12 != 0) 5 s = s1) :
    Calls Try.prog 35 #[.pointer (some ⟨B, 0, none⟩), .pointer (some ⟨Bh, 0, none⟩), .int .u8 (n8 f : Nat)] w fun e w' => ∃ vd vs vt, e = .returned (.int .i64 ((lEnd b k nl s1).2 : Nat)) ∧ row? w' B = some (rd vb (lEnd b k nl s1).1) ∧
      row? w' Bh = some (hvA long k (aVer b k s1).2 vd vs vt sp ph (lNum b k nl s1).2 nl) ∧
      w'.ownsRow w.heap.size 5 1 vd (aDst b k s1).2.length ((aDst b k s1).2.map bv) ∧
      w'.ownsRow w.heap.size 5 1 vs (aSrc b k s1).2.length ((aSrc b k s1).2.map bv) ∧
      w'.ownsRow w.heap.size 5 1 vt (aTok b k s1).2.length ((aTok b k s1).2.map bv) ∧ (∀ i j, vd.ownBlock = some i → vt.ownBlock = some j → i ≠ j) ∧ Mut2 B Bh w w' := by
  have hsz := hw.size
  have hBs := row?_lt hr
  have hBhs := row?_lt hh
  have hle1 : s1.1 ≤ b.length := by rw [← hs1, rfail_at]; exact hat
  have hle2 := aRest_le b k s1 hle1
  have hlt2 := aRest_lt b k s1
  have hah := fun W hr hh hw' => ahead_any b w0 W B Bh vb s1 f long k0 v0 sp ph num nl hb hle1 hs hw' hB hBh hne hr hh
  rw [← hk] at hah
  -- the states, named
  have hlN : ∀ x, x = aRest b k s1 → lNum b k nl s1 = rnum b nl (rfail (decide (x.2 < nl)) 5 x.1) := fun x hx => by rw [hx]; rfl
  have hlE : ∀ x y, x = aRest b k s1 → y = lNum b k nl s1 → lEnd b k nl s1 = if y.1.2 ≠ 0 then (y.1, 0) else (rfail (decide (b.length - y.1.1 < x.2 - nl)) 3 y.1, min (x.2 - nl) b.length) := fun x y hx hy => by rw [hx, hy]; rfl
  generalize aRest b k s1 = q at *
  generalize (aVer b k s1).2 = ver at *
  generalize (aDst b k s1).2 = d at *
  generalize (aSrc b k s1).2 = src at *
  generalize (aTok b k s1).2 = tok at *
  replace hlN := hlN q rfl
  obtain ⟨s2, n⟩ := q
  simp only [] at hle2 hlt2 hlN hah
  obtain ⟨s3, hs3⟩ : ∃ s3, rfail (decide (n < nl)) 5 s2 = s3 := ⟨_, rfl⟩
  rw [hs3] at hlN
  have hle3 : s3.1 ≤ b.length := by rw [← hs3, rfail_at]; exact hle2
  have hge : s3.2 = 0 → nl ≤ n := fun h => by
    rw [← hs3] at h
    have := (rfail_zero (by decide) h).1
    simpa using this
  obtain ⟨q4, hq4⟩ : ∃ q, rnum b nl s3 = q := ⟨_, rfl⟩
  rw [hq4] at hlN
  have hle4 : q4.1.1 ≤ b.length := by rw [← hq4]; exact rnum_le _ _ _ hle3
  have hge4 : q4.1.2 = 0 → nl ≤ n := fun h => hge (by rw [← hq4] at h; exact rtake_zero h)
  replace hlE := hlE (s2, n) q4 rfl hlN.symm
  obtain ⟨s4, m⟩ := q4
  rw [hlN, hlE]
  simp only [] at hle4 hge4 ⊢
  obtain ⟨q5, hE⟩ : ∃ q, (if s4.2 ≠ 0 then (s4, 0) else (rfail (decide (b.length - s4.1 < n - nl)) 3 s4, min (n - nl) b.length)) = q := ⟨_, rfl⟩
  rw [hE]
  have HE := Lib.hid hE
  clear hE
  obtain ⟨s5, rr⟩ := q5
  simp only []
  obtain ⟨ao, cap, rfl, -, -, -⟩ := id hs
  have HS1 := Lib.hid hs1
  have HS3 := Lib.hid hs3
  have HQ4 := Lib.hid hq4
  have HAH := Lib.hid hah
  have HR := Lib.hid hr
  have HH := Lib.hid hh
  have HGE := Lib.hid hge4
  have HB := Lib.hid hb
  have HLT := Lib.hid hlt2
  clear hs1 hs3 hq4 hah hr hh hge hge4 hlN hlE hk hlt2
  go_enter Try.func35, Try.ntmps35
  go_wp2_with fail
  refine (fail_any w B _ s _ 5 HR.out).mono ?_
  rintro e w1 ⟨rfl, n1, r1⟩
  rw [HS1.out] at r1
  have h1 := n1.row HH.out hne
  have m1 : Mut2 B Bh w w1 := n1.left Bh
  have hw1 : Below w0.heap.size w0 w1 := hw.trans (m1.below hB hBh hsz)
  have H1 := Lib.hid h1
  have R1 := Lib.hid r1
  clear HH HR n1 h1 r1
  go_wp2_with fail
  refine (HAH.out w1 R1.out H1.out hw1).mono ?_
  rintro e w2 ⟨vd, vs, vt, rfl, r2, h2, od2, os2, ot2, hdis, n2⟩
  have HDIS := Lib.hid hdis
  clear hdis
  have m2 : Mut2 B Bh w w2 := m1.trans n2
  have od2' := own_lower od2 m1.size
  have os2' := own_lower os2 m1.size
  have ot2' := own_lower ot2 m1.size
  have c2 : w2.cell? ⟨Bh, 9, none⟩ = some (.int .i64 (nl : Nat)) := row?_cell h2 9
  have H2 := Lib.hid h2
  have R2 := Lib.hid r2
  have OD2 := Lib.hid od2'
  have OS2 := Lib.hid os2'
  have OT2 := Lib.hid ot2'
  have hnw : IntKind.u64.wrap ((nl : Nat) : Int) = (nl : Nat) := by simp only [IntKind.wrap_u64]; omega
  clear HAH H1 R1 n2 m1 h2 r2 od2 os2 ot2 od2' os2' ot2' hw1
  go_wp2_with fail
  refine (fail_any w2 B _ s2 _ 5 R2.out).mono ?_
  rintro e w3 ⟨rfl, n3, r3⟩
  rw [HS3.out] at r3
  have h3 := n3.row H2.out hne
  have m3 : Mut2 B Bh w w3 := m2.trans (n3.left Bh)
  have hw3 : Below w0.heap.size w0 w3 := hw.trans (m3.below hB hBh hsz)
  have od3 := n3.own OD2.out hBs
  have os3 := n3.own OS2.out hBs
  have ot3 := n3.own OT2.out hBs
  have c3 : w3.cell? ⟨Bh, 9, none⟩ = some (.int .i64 (nl : Nat)) := row?_cell h3 9
  have H3 := Lib.hid h3
  have R3 := Lib.hid r3
  have OD3 := Lib.hid od3
  have OS3 := Lib.hid os3
  have OT3 := Lib.hid ot3
  clear H2 R2 OD2 OS2 OT2 n3 m2 h3 r3 od3 os3 ot3 c2
  go_wp2_with fail
  refine (rnumber_any b w0 w3 B _ s3 nl hb hnl hle3 hs hw3 hB R3.out).mono ?_
  rintro e w4 ⟨rfl, n4, r4⟩
  rw [HQ4.out] at r4 ⊢
  have h4 := n4.row H3.out hne
  have m4 : Mut2 B Bh w w4 := m3.trans (n4.left Bh)
  have od4 := n4.own OD3.out hBs
  have os4 := n4.own OS3.out hBs
  have ot4 := n4.own OT3.out hBs
  have f4 := row?_frozen h4 8
  have c4 := row?_cell h4 8
  have r40 := row?_cell r4 0
  have r41 := row?_cell r4 1
  have r42 := row?_cell r4 2
  rw [rd_0] at r40
  rw [rd_1] at r41
  rw [rd_2] at r42
  have c49 : w4.cell? ⟨Bh, 9, none⟩ = some (.int .i64 (nl : Nat)) := row?_cell h4 9
  have H4 := Lib.hid h4
  have R4 := Lib.hid r4
  have OD4 := Lib.hid od4
  have OS4 := Lib.hid os4
  have OT4 := Lib.hid ot4
  clear H3 R3 OD3 OS3 OT3 n4 m3 h4 r4 od4 os4 ot4 c3 hw3
  by_cases he : s4.2 = 0
  · have hge4 := HGE.out he
    have hE := HE.out
    rw [if_neg (by simpa using he)] at hE
    injection hE with hE1 hE2
    have hsub : IntKind.u64.wrap (((n : Nat) : Int) - (nl : Nat)) = ((n - nl : Nat) : Int) := by have := HLT.out; simp only [IntKind.wrap_u64]; omega
    have HE1 := Lib.hid hE1
    have HE2 := Lib.hid hE2
    have HE0 := Lib.hid he
    clear HE hE1 hE2
    go_wp2_with fail
    have h5 : row? (w4.setCell ⟨Bh, 8, none⟩ (.int .u64 (m : Nat))) Bh = some (hvA long k ver vd vs vt sp ph m nl) := by rw [row?_setCell_eq H4.out]; rfl
    have r5 : row? (w4.setCell ⟨Bh, 8, none⟩ (.int .u64 (m : Nat))) B = some (rd (.slice ao b.length cap) s4) := by rw [row?_setCell_ne _ _ _ _ (by simpa using fun h => hne h.symm)]; exact R4.out
    have n5 := (Mut.refl Bh w4).setCell 8 none (.int .u64 (m : Nat))
    have od5 := n5.own OD4.out hBhs
    have os5 := n5.own OS4.out hBhs
    have ot5 := n5.own OT4.out hBhs
    have m5 := m4.trans (n5.right B)
    generalize (w4.setCell ⟨Bh, 8, none⟩ (.int .u64 (m : Nat))) = w5 at *
    have c0 := row?_cell r5 0
    have c1 := row?_cell r5 1
    rw [rd_0] at c0
    rw [rd_1] at c1
    have H5 := Lib.hid h5
    have R5 := Lib.hid r5
    have OD5 := Lib.hid od5
    have OS5 := Lib.hid os5
    have OT5 := Lib.hid ot5
    clear H4 R4 OD4 OS4 OT4 f4 c4 r40 r41 r42 c49 n5 m4 h5 r5 od5 os5 ot5
    have hw1 : wrap64 ((b.length : Int) - (s4.1 : Nat)) = ((b.length - s4.1 : Nat) : Int) := by unfold wrap64; omega
    have hw2 : IntKind.u64.wrap ((b.length - s4.1 : Nat) : Int) = ((b.length - s4.1 : Nat) : Int) := by simp only [IntKind.wrap_u64]; omega
    refine Rg.wp_region_plan (Rg.row [(0, 3), (1, 3), (2, 3), (3, 3), (4, 3), (5, 0), (6, 0), (7, 3), (8, 3), (9, 3), (10, 0), (11, 3), (12, 3), (13, 3)] [14]) [14] (by kernel_rfl) (by kernel_rfl) ?_
    simp only [Rg.row, Rg.PT.map, List.map_cons, List.map_nil, List.getD_cons_zero, List.getD_cons_succ]
    go_wp2_with (first
      | ((with_reducible refine Rg.plan_pure ?_ ?_ ?_); kernel_rfl; kernel_rfl; intro _ _)
      | ((with_reducible refine Rg.plan_take ?_ ?_ ?_); kernel_rfl; kernel_rfl; intro _ _)
      | ((with_reducible refine Rg.plan_keep ?_ ?_); kernel_rfl; intro K hK)
      | (refine hK _ _ (Rg.Keep.refl _) ?_; clear hK)
      | (refine hK _ _ (Rg.Keep.of_below (by assumption)) ?_; clear hK)
      | ((with_reducible refine Rg.plan_skip ?_ ?_); kernel_rfl)
      | (with_reducible refine Rg.plan_done ?_)
      | (with_reducible refine Rg.calm_normal ?_))
    have rD : row? w5.drew B = some (rd (.slice ao b.length cap) s4) := (row?_drew _ _).trans R5.out
    have hD : row? w5.drew Bh = some (hvA long k ver vd vs vt sp ph m nl) := (row?_drew _ _).trans H5.out
    refine (fail_any w5.drew B _ s4 _ 3 rD).mono ?_
    rintro e w6 ⟨rfl, n6, r6⟩
    rw [show decide ((b.length : Int) - (s4.1 : Nat) < ((n - nl : Nat) : Int)) = decide (b.length - s4.1 < n - nl) from decide_eq_decide.2 (by omega), HE1.out] at r6
    have h6 := n6.row hD hne
    have m6 : Mut2 B Bh w w6 := m5.trans (((Mut.refl B w5).drew.trans n6).left Bh)
    have od6 := ((Mut.refl B w5).drew.trans n6).own OD5.out hBs
    have os6 := ((Mut.refl B w5).drew.trans n6).own OS5.out hBs
    have ot6 := ((Mut.refl B w5).drew.trans n6).own OT5.out hBs
    have c0 := row?_cell r6 0
    rw [rd_0] at c0
    have H6 := Lib.hid h6
    have R6 := Lib.hid r6
    have OD6 := Lib.hid od6
    have OS6 := Lib.hid os6
    have OT6 := Lib.hid ot6
    have hE2 := HE2.out
    clear H5 R5 OD5 OS5 OT5 c1 rD hD n6 m5 h6 r6 od6 os6 ot6 HE1 HE2
    have hw3 : IntKind.u64.wrap ((b.length : Nat) : Int) = (b.length : Nat) := by have := HB.out; simp only [IntKind.wrap_u64]; omega
    have hw4 : wrap64 ((b.length : Nat) : Int) = (b.length : Nat) := by have := HB.out; unfold wrap64; omega
    generalize n - nl = r at *
    clear hsub hw1 hw2
    have hb6 := HB.out
    clear hnw he hge4 HE0 HGE HLT HQ4 HS3 HS1 hle4 hle3 hle2 hle1
    have HW3 := Lib.hid hw3
    have HW4 := Lib.hid hw4
    have M6 := Lib.hid m6
    have HE3 := Lib.hid hE2
    clear hw3 hw4 m6 hE2 hb6 hb hne hBs hBhs hB hBh hsz hw hat hs hnl
    by_cases hm : r ≤ b.length
    · have hw5 : wrap64 ((r : Nat) : Int) = (r : Nat) := wrap_small r (Nat.le_trans hm HB.out)
      have hE2 := HE3.out
      rw [Nat.min_eq_left hm] at hE2
      subst hE2
      have hw3 := HW3.out
      clear HE3
      go_wp2_with (first
        | ((with_reducible refine Rg.plan_pure ?_ ?_ ?_); kernel_rfl; kernel_rfl; intro _ _)
        | ((with_reducible refine Rg.plan_take ?_ ?_ ?_); kernel_rfl; kernel_rfl; intro _ _)
        | ((with_reducible refine Rg.plan_keep ?_ ?_); kernel_rfl; intro K hK)
        | (refine hK _ _ (Rg.Keep.refl _) ?_; clear hK)
        | (refine hK _ _ (Rg.Keep.of_below (by assumption)) ?_; clear hK)
        | ((with_reducible refine Rg.plan_skip ?_ ?_); kernel_rfl)
        | (with_reducible refine Rg.plan_done ?_)
        | (with_reducible refine Rg.calm_normal ?_))
      go_ret
      exact ⟨_, _, _, congrArg (fun x => Ending.returned (Value.int .i64 x)) hw5, R6.out, H6.out, OD6.out, OS6.out, OT6.out, HDIS.out, M6.out⟩
    · have hE2 := HE3.out
      rw [Nat.min_eq_right (Nat.le_of_not_le hm)] at hE2
      subst hE2
      have hw3 := HW3.out
      have hw4 := HW4.out
      clear HE3
      go_wp2_with (first
        | ((with_reducible refine Rg.plan_pure ?_ ?_ ?_); kernel_rfl; kernel_rfl; intro _ _)
        | ((with_reducible refine Rg.plan_take ?_ ?_ ?_); kernel_rfl; kernel_rfl; intro _ _)
        | ((with_reducible refine Rg.plan_keep ?_ ?_); kernel_rfl; intro K hK)
        | (refine hK _ _ (Rg.Keep.refl _) ?_; clear hK)
        | (refine hK _ _ (Rg.Keep.of_below (by assumption)) ?_; clear hK)
        | ((with_reducible refine Rg.plan_skip ?_ ?_); kernel_rfl)
        | (with_reducible refine Rg.plan_done ?_)
        | (with_reducible refine Rg.calm_normal ?_))
      go_ret
      exact ⟨_, _, _, congrArg (fun x => Ending.returned (Value.int .i64 x)) HW4.out, R6.out, H6.out, OD6.out, OS6.out, OT6.out, HDIS.out, M6.out⟩
  · have hE := HE.out
    rw [if_pos he] at hE
    injection hE with hE1 hE2
    subst hE1 hE2
    go_wp2_with fail
    go_ret
    have h5 : row? (w4.setCell ⟨Bh, 8, none⟩ (.int .u64 (m : Nat))) Bh = some (hvA long k ver vd vs vt sp ph m nl) := by rw [row?_setCell_eq H4.out]; rfl
    have r5 : row? (w4.setCell ⟨Bh, 8, none⟩ (.int .u64 (m : Nat))) B = some (rd (.slice ao b.length cap) s4) := by rw [row?_setCell_ne _ _ _ _ (by simpa using fun h => hne h.symm)]; exact R4.out
    have n5 := (Mut.refl Bh w4).setCell 8 none (.int .u64 (m : Nat))
    exact ⟨_, _, _, rfl, r5, h5, n5.own OD4.out hBhs, n5.own OS4.out hBhs, n5.own OT4.out hBhs, HDIS.out, m4.trans (n5.right B)⟩
end Go.Proofs.Ytgaheodnembjiaa
