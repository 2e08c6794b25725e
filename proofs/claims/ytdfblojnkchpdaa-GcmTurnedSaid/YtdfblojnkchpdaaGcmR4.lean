/- The walk of the document's tag. -/
import Derived.Test.YtdfblojnkchpdaaGcmR3
import Derived.RegionTactic
import Derived.BigRegion
namespace Go.Proofs.Ytdfblojnkchpdaa
open Go.RowKit Go.Rw Aes Gcm
attribute [local go_sem ↓] ld12 ld16 st16 al16 shift_shl8 shift_shr8 shift_shr32 shift_shr64 bvs_getElem?
attribute [local go_sem] rld12 rld16 rst16 ral16 setRow_alloc_at setRow_alloc_past setRow_drew bvs_setn
theorem word_m (n : Nat) (h : n ≤ 1000000) : (n : Int) * 8 = ((n64 (word n) : Nat) : Int) := by
  rw [word, n64_ofNat _ (by omega)]; omega

set_option maxRecDepth 20000 in
set_option maxHeartbeats 4000000 in
theorem rtag_any (key nonce text data : List UInt8) (hk : key.length = 16) (hn : nonce.length = 12) (ht : text.length ≤ 1000000) (hdl : data.length ≤ 1000000) (vs vd : Value) (B : Nat) (w : World) (hB : row? w B = some (bvs (cipher key))) (hs : Sl w vs text) (hd : Sl w vd data) :
    Calls Try.prog 26 #[.pointer (some ⟨B, 0, none⟩), .agg (bvs nonce), vs, vd] w fun e w' => e = .returned (.agg (bvs (tag key nonce text data))) ∧ Below w.heap.size w w' := by
  have hs0 := hs
  have hd0 := hd
  have qB := row?_lt hB
  obtain ⟨ao, cap, rfl, hc, hnn, hp⟩ := hs0
  obtain ⟨ao2, cap2, rfl, hc2, hnn2, hp2⟩ := hd0
  obtain ⟨i0, hi, hz0, hz1, hz2⟩ := info_parts info8
  clear hp hp2 hnn hnn2
  go_enter Try.func26, Try.ntmps26
  go_wp2_with fail
  refine (rcblock_any key (zeros 16) hk (zeros_length 16) B _ (by rw [row?_alloc_past _ _ _ (by simp; omega), row?_alloc_past _ _ _ qB]; exact hB)).mono ?_
  rintro e wA ⟨rfl, hA⟩
  have zA := hA.size
  simp at zA
  have a1 : row? wA w.heap.size = some (bvs nonce) := by rw [row?_below hA (by simp <;> omega)]; simp [go_sem]
  have a2 : row? wA (w.heap.size + 1) = some (bvs (zeros 16)) := by rw [row?_below hA (by simp <;> omega)]; simp [go_sem]
  have aB : row? wA B = some (bvs (cipher key)) := by rw [row?_below hA (by simp; omega), row?_alloc_past _ _ _ (by simp; omega), row?_alloc_past _ _ _ qB]; exact hB
  have ab : Below w.heap.size w wA := (bel2 w _ _).trans (hA.mono (by simp; omega))
  clear hA
  generalize hH : block key (zeros 16) = H at *
  have hHl : H.length = 16 := by rw [← hH]; exact block_length _ _
  go_wp2_with (at_make; refine wpList_make_full _ rfl _ _ 24 rfl wA.heap.size 5 i0 (.int .u8 0) 1 Try.underlying24 hi hz0 hz1 _ _ _ _ 16 rfl rfl rfl rfl ?b1 ?b2 ?b3 ?_)
  case b1 => rw [hz2]; omega
  case b2 => unfold maxLen; omega
  case b3 => simp
  intro w1 hown1 hgrow1
  have z1 := hgrow1.size
  simp at z1 hown1
  rw [zeros_made] at hown1
  have z2 := (hown1.lt _ rfl).2
  have r1 : row? w1 w.heap.size = some (bvs nonce) := by rw [grown_row0 hgrow1 (by simp; omega), row?_alloc_past _ _ _ (by omega)]; exact a1
  have r2 : row? w1 (w.heap.size + 1) = some (bvs (zeros 16)) := by rw [grown_row0 hgrow1 (by simp; omega), row?_alloc_past _ _ _ (by omega)]; exact a2
  have r3 : row? w1 wA.heap.size = some (bvs H) := by rw [grown_row0 hgrow1 (by simp)]; simp [go_sem]
  have rB : row? w1 B = some (bvs (cipher key)) := by rw [grown_row0 hgrow1 (by simp; omega), row?_alloc_past _ _ _ (by omega)]; exact aB
  have b1 : Below w.heap.size w w1 := (ab.alloc (by omega) _).grown hgrow1 (by simp; omega) (by simp)
  have R1 := Lib.hid r1
  have R2 := Lib.hid r2
  have R3 := Lib.hid r3
  have RB := Lib.hid rB
  have hown2 : w1.ownsRow wA.heap.size 5 1 (.slice (some ⟨wA.heap.size + 1, 0, none⟩) 16 16) 16 ((blkUpto (word data.length, word text.length) 0).map bv) := by
    rw [blkUpto_zero]; exact hown1
  have O1 := Lib.hid hown2
  clear hgrow1 r1 r2 r3 rB hown1 hown2 a1 a2 aB ab
  go_wp2_with fail
  go_loopw [11] (fun v wr => ∃ k : Nat, k ≤ 8 ∧ v = .int .i64 k ∧ wr.ownsRow wA.heap.size 5 1 (.slice (some ⟨wA.heap.size + 1, 0, none⟩) 16 16) 16 ((blkUpto (word data.length, word text.length) k).map bv)
      ∧ row? wr w.heap.size = some (bvs nonce) ∧ row? wr (w.heap.size + 1) = some (bvs (zeros 16)) ∧ row? wr wA.heap.size = some (bvs H) ∧ row? wr B = some (bvs (cipher key)) ∧ Below w.heap.size w wr) (fun v _ => 8 - (intOf v).toNat)
  case atStart => exact ⟨0, by omega, rfl, O1.out, R1.out, R2.out, R3.out, RB.out, b1⟩
  case round =>
    obtain ⟨k, hk', rfl, hown, h1, h2, h3, hB2, hb⟩ := hrel
    have HO := Lib.hid hown
    have H1 := Lib.hid h1
    have H2 := Lib.hid h2
    have H3 := Lib.hid h3
    have HB := Lib.hid hB2
    by_cases hlt : k < 8
    · have hr := own_row hown
      have c0 := row?_cell hr
      have f0 := row?_frozen hr
      have s0 : (8 : Int) * (k : Int) ≤ 56 := by omega
      have s1 : ((56 : Int) - 8 * (k : Int)).toNat = 56 - 8 * k := by omega
      have W1 := word_m data.length hdl
      have W2 := word_m text.length ht
      have G := Lib.hid (blkUpto_set (word data.length, word text.length) k hlt)
      clear hown h1 h2 h3 hB2 hr
      go_wp2_with fail
      go_region
      all_goals (go_wp2_with fail)
      go_roundw
      case rel =>
        refine ⟨k + 1, by omega, by go_num, ?_, ?_, ?_, ?_, ?_, ((hb.setCell (by simp <;> omega) _).setCell (by simp <;> omega) _).drew⟩
        · rw [← G.out]; exact (own_stored (own_stored HO.out k _) (8 + k) _).drew
        · rw [row?_drew, row?_setCell_ne _ _ _ _ (by simp <;> omega), row?_setCell_ne _ _ _ _ (by simp <;> omega)]; exact H1.out
        · rw [row?_drew, row?_setCell_ne _ _ _ _ (by simp <;> omega), row?_setCell_ne _ _ _ _ (by simp <;> omega)]; exact H2.out
        · rw [row?_drew, row?_setCell_ne _ _ _ _ (by simp <;> omega), row?_setCell_ne _ _ _ _ (by simp <;> omega)]; exact H3.out
        · rw [row?_drew, row?_setCell_ne _ _ _ _ (by simp <;> omega), row?_setCell_ne _ _ _ _ (by simp <;> omega)]; exact HB.out
      case measure => simp [intOf]; omega
    · obtain rfl : k = 8 := by omega
      rw [blkUpto_full] at hown
      have hL : longs data.length text.length = blk (word data.length, word text.length) := rfl
      rw [← hL] at hown
      have hLl : (longs data.length text.length).length = 16 := blk_length _
      have hT : tag key nonce text data = add (Gcm.hash H [data, text, longs data.length text.length]) (block key (ctr nonce 1)) := by rw [← hH]; rfl
      generalize longs data.length text.length = L at *
      have hr := own_row hown
      have qL := row?_lt hr
      have q3 := row?_lt h3
      clear HO H1 H2 H3 HB hown hL
      have hk8 : ¬ (((8 : Nat) : Int) < 8) := by omega
      have hP : Pts (wr.alloc (.cells #[.slice ao2 data.length cap2, .slice ao text.length cap, .slice (some ⟨wA.heap.size + 1, 0, none⟩) 16 16] 24)) (.slice (some ⟨wr.heap.size, 0, none⟩) 3 3) [data, text, L] := by
        refine ⟨_, 3, rfl, fun _ => ⟨wr.heap.size, 0, rfl, fun k hk => ?_⟩⟩
        rw [row?_cell (row?_alloc_at _ _ _ _ rfl)]
        have hbw := hb.alloc hb.size (.cells #[.slice ao2 data.length cap2, .slice ao text.length cap, .slice (some ⟨wA.heap.size + 1, 0, none⟩) 16 16] 24)
        match k, hk with
        | 0, _ => exact ⟨_, rfl, hd.below hbw⟩
        | 1, _ => exact ⟨_, rfl, hs.below hbw⟩
        | 2, _ =>
          have hr2 : row? (wr.alloc (.cells #[.slice ao2 data.length cap2, .slice ao text.length cap, .slice (some ⟨wA.heap.size + 1, 0, none⟩) 16 16] 24)) (wA.heap.size + 1) = some (bvs L) := by rw [row?_alloc_past _ _ _ qL]; exact hr
          have := Sl.row hr2
          rw [hLl] at this
          exact ⟨_, rfl, this⟩
      go_wp2_with fail
      refine (rhash_any H hHl [data, text, L] (by simp) (by intro p hp; simp at hp; rcases hp with rfl | rfl | rfl <;> omega) _ _ hP).mono ?_
      rintro e wC ⟨rfl, hC⟩
      have zC := hC.size
      simp at zC
      have zr := hb.size
      have q1 := row?_lt h1
      have q2 := row?_lt h2
      have qB2 := row?_lt hB2
      have c1 : row? wC w.heap.size = some (bvs nonce) := by rw [row?_below hC (by simp; omega), row?_alloc_past _ _ _ q1]; exact h1
      have c2 : row? wC (w.heap.size + 1) = some (bvs (zeros 16)) := by rw [row?_below hC (by simp; omega), row?_alloc_past _ _ _ q2]; exact h2
      have cB : row? wC B = some (bvs (cipher key)) := by rw [row?_below hC (by simp; omega), row?_alloc_past _ _ _ qB2]; exact hB2
      have cb : Below w.heap.size w wC := (hb.alloc zr _).trans (hC.mono (by simp; omega))
      have hSl : (Gcm.hash H [data, text, L]).length = 16 := hash_length _ _
      generalize Gcm.hash H [data, text, L] = S at *
      have l0 : w.heap.size < wC.heap.size := by omega
      clear hC hP h1 h2 h3 hB2 hr
      go_wp2_with fail
      refine (rcount_any nonce 1 hn (by omega) _).mono ?_
      rintro e wD ⟨rfl, hD⟩
      have zD := hD.size
      simp at zD
      have d2 : row? wD (w.heap.size + 1) = some (bvs (zeros 16)) := by rw [row?_below hD (by simp; omega), row?_alloc_past _ _ _ (by omega)]; exact c2
      have dB : row? wD B = some (bvs (cipher key)) := by rw [row?_below hD (by simp; omega), row?_alloc_past _ _ _ (by omega)]; exact cB
      have dS : row? wD wC.heap.size = some (bvs S) := by rw [row?_below hD (by simp)]; simp [go_sem]
      have db : Below w.heap.size w wD := (cb.alloc (by omega) _).trans (hD.mono (by simp; omega))
      clear hD c1 c2 cB cb
      go_wp2_with fail
      refine (rcblock_any key (ctr nonce 1) hk (ctr_length _ _) B _ dB).mono ?_
      rintro e wE ⟨rfl, hE⟩
      have zE := hE.size
      have e2 : row? wE (w.heap.size + 1) = some (bvs (zeros 16)) := by rw [row?_below hE (by omega)]; exact d2
      have eS : row? wE wC.heap.size = some (bvs S) := by rw [row?_below hE (by omega)]; exact dS
      have eb : Below w.heap.size w wE := db.trans (hE.mono (by omega))
      have hFl : (block key (ctr nonce 1)).length = 16 := block_length _ _
      generalize block key (ctr nonce 1) = F at *
      have E2 := Lib.hid (show row? (wE.alloc (.cells (bvs F) 22)) (w.heap.size + 1) = some (bvs (zeros 16)) by rw [row?_alloc_past _ _ _ (by omega)]; exact e2)
      have ES := Lib.hid (show row? (wE.alloc (.cells (bvs F) 22)) wC.heap.size = some (bvs S) by rw [row?_alloc_past _ _ _ (by omega)]; exact eS)
      have EF := Lib.hid (row?_alloc_at wE (bvs F) 22 _ rfl)
      have EB := Lib.hid (eb.alloc (by omega) (.cells (bvs F) 22))
      clear hE d2 dB dS db e2 eS eb
      go_wp2_with fail
      go_loopw [14] (fun v wr => ∃ k : Nat, k ≤ 16 ∧ v = .int .i64 k ∧ row? wr wC.heap.size = some (bvs (upto (addF S F) S 16 k)) ∧ row? wr wE.heap.size = some (bvs F) ∧ row? wr (w.heap.size + 1) = some (bvs (zeros 16)) ∧ Below w.heap.size w wr) (fun v _ => 16 - (intOf v).toNat)
      case atStart => exact ⟨0, by omega, rfl, by rw [upto_zero _ _ _ hSl]; exact ES.out, EF.out, E2.out, EB.out⟩
      case round =>
        obtain ⟨k, hk, rfl, h0, h1, h2, hb⟩ := hrel
        by_cases hlt : k < 16
        · have g := upto_set (addF S F) S 16 k hlt
          have ghi := upto_hi (f := addF S F) (z := S) hlt (Nat.le_refl k)
          have G := Lib.hid g; clear g
          have H0 := Lib.hid h0
          have H1 := Lib.hid h1
          have H2 := Lib.hid h2
          have c0 := row?_cell h0
          have c1 := row?_cell h1
          have f0 := row?_frozen h0
          clear h0 h1 h2
          go_wp2_with fail
          refine Rg.wp_region_plan (Rg.row [(0, 3), (1, 3), (2, 3), (3, 0), (4, 3), (5, 3), (6, 0), (7, 3), (8, 3)] [9]) [9] (by kernel_rfl) (by kernel_rfl) ?_
          simp only [Rg.row, Rg.PT.map, List.map_cons, List.map_nil, List.getD_cons_zero, List.getD_cons_succ]
          go_wp2_with (first
            | ((with_reducible refine Rg.plan_pure ?_ ?_ ?_); kernel_rfl; kernel_rfl; intro _ _)
            | ((with_reducible refine Rg.plan_take ?_ ?_ ?_); kernel_rfl; kernel_rfl; intro _ _)
            | ((with_reducible refine Rg.plan_keep ?_ ?_); kernel_rfl; intro K hK)
            | (refine hK _ _ (Rg.Keep.refl _) ?_; clear hK)
            | (refine hK _ _ (Rg.Keep.of_below (by assumption)) ?_; clear hK)
            | ((with_reducible refine Rg.plan_skip ?_ ?_); kernel_rfl)
            | (with_reducible refine Rg.plan_done ?_)
            | (with_reducible refine Rg.calm_normal ?_))
          go_roundw
          case rel =>
            refine ⟨k + 1, by omega, by go_num, ?_, ?_, ?_, (hb.setCell (by simp <;> omega) _).drew⟩
            · rw [row?_drew, row?_setCell_eq H0.out, bvs_setn]; exact congrArg (fun l => some (bvs l)) G.out
            · rw [row?_drew, row?_setCell_ne _ _ _ _ (by simp <;> omega)]; exact H1.out
            · rw [row?_drew, row?_setCell_ne _ _ _ _ (by simp <;> omega)]; exact H2.out
          case measure => simp [intOf]; omega
        · go_wp2_with fail
          obtain rfl : k = 16 := by omega
          rw [upto_full] at h0
          have zl := hb.size
          exact ret16 (w.heap.size + 1) (bvs (add S F)) rfl rfl rfl (row?_setRow_eq h2) (by rw [bvs_size]; exact add_length _ _) ⟨by rw [hT], below_setRow hb (by omega) _⟩
end Go.Proofs.Ytdfblojnkchpdaa
