/- The walks of the tag, of what seals and what opens. -/
import Derived.Test.YtdfblojnkchpdaaGcmW5
import Derived.Test.YtdfblojnkchpdaaLibF
namespace Go.Proofs.Ytdfblojnkchpdaa
open Go.RowKit Go.Rw Aes Gcm
attribute [local go_sem ↓] ld12 ld16 st16 al16 ldW stW alW shift_shl8 shift_shr8 shift_shl64 shift_shr64 shift_shr32 bvs_getElem? wv_0 wv_1
attribute [local go_sem] rld12 rld16 rst16 ral16 rldW rstW ralW setRow_alloc_at setRow_alloc_past setRow_drew bvs_setn wv_set0 wv_set1
theorem word_n (n : Nat) (h : n ≤ 1000000) : (8 : Int) * (n : Int) = ((n64 (word n) : Nat) : Int) := by
  rw [word, n64_ofNat _ (by omega)]; omega

set_option maxRecDepth 20000 in
set_option maxHeartbeats 1000000 in
theorem tag_any (key nonce text data : List UInt8) (hk : key.length = 16) (hn : nonce.length = 12) (ht : text.length ≤ 1000000) (hdl : data.length ≤ 1000000) (vs vd : Value) (w : World) (hs : Sl w vs text) (hd : Sl w vd data) :
    Calls Try.prog 23 #[.agg (bvs key), .agg (bvs nonce), vs, vd] w fun e w' => e = .returned (.agg (bvs (tag key nonce text data))) ∧ Below w.heap.size w w' := by
  have hs0 := hs
  have hd0 := hd
  obtain ⟨ao, cap, rfl, hc, hnn, hp⟩ := hs0
  obtain ⟨ao2, cap2, rfl, hc2, hnn2, hp2⟩ := hd0
  clear hp hp2 hnn hnn2
  go_enter Try.func23, Try.ntmps23
  go_wp2_with fail
  refine (block_any key (zeros 16) hk (zeros_length 16) _).mono ?_
  rintro e wA ⟨rfl, hA⟩
  have zA := hA.size
  simp at zA
  have a0 : row? wA w.heap.size = some (bvs key) := by rw [row?_below hA (by simp; omega)]; simp [go_sem]
  have a1 : row? wA (w.heap.size + 1) = some (bvs nonce) := by rw [row?_below hA (by simp <;> omega)]; simp [go_sem]
  have a2 : row? wA (w.heap.size + 1 + 1) = some (bvs (zeros 16)) := by rw [row?_below hA (by simp)]; simp [go_sem]
  have ab : Below w.heap.size w wA := (bel3 w _ _ _).trans (hA.mono (by simp; omega))
  clear hA
  generalize hH : block key (zeros 16) = H at *
  have hHl : H.length = 16 := by rw [← hH]; exact block_length _ _
  go_wp2_with fail
  rw [word_n _ hdl, word_n _ ht]
  refine (blk_any (word data.length, word text.length) _).mono ?_
  rintro e wB ⟨rfl, hB⟩
  have zB := hB.size
  simp at zB
  have b0 : row? wB w.heap.size = some (bvs key) := by rw [row?_below hB (by simp; omega), row?_alloc_past _ _ _ (by omega)]; exact a0
  have b1 : row? wB (w.heap.size + 1) = some (bvs nonce) := by rw [row?_below hB (by simp; omega), row?_alloc_past _ _ _ (by omega)]; exact a1
  have b2 : row? wB (w.heap.size + 1 + 1) = some (bvs (zeros 16)) := by rw [row?_below hB (by simp; omega), row?_alloc_past _ _ _ (by omega)]; exact a2
  have b3 : row? wB wA.heap.size = some (bvs H) := by rw [row?_below hB (by simp)]; simp [go_sem]
  have bb : Below w.heap.size w wB := (ab.alloc (by omega) _).trans (hB.mono (by simp; omega))
  clear hB a0 a1 a2 ab
  generalize hL : blk (word data.length, word text.length) = L at *
  have hLl : L.length = 16 := by rw [← hL]; exact blk_length _
  go_wp2_with fail
  have m0 : w.heap.size < wB.heap.size := by omega
  have m1 : w.heap.size + 1 < wB.heap.size := by omega
  have m3 : wA.heap.size < wB.heap.size := by omega
  refine Rg.wp_region_flo [(0, 0), (1, 3), (2, 3), (3, 3), (6, 0), (7, 0)] [
      ⟨4, 31, [], true, fun v w' => ∃ B, v = .slice (some ⟨B, 0, none⟩) 3 3 ∧ row? w' B = some #[.slice ao2 data.length cap2, .slice ao text.length cap, .slice (some ⟨wB.heap.size, 0, none⟩) 16 16]⟩,
      ⟨5, 32, [4], false, fun v _ => v = .agg (bvs (Gcm.hash H [data, text, L]))⟩,
      ⟨8, 35, [5], false, fun v _ => v = .agg (bvs (ctr nonce 1))⟩,
      ⟨9, 36, [8], false, fun v _ => v = .agg (bvs (block key (ctr nonce 1)))⟩,
      ⟨10, 11, [], true, fun v w' => ∃ B, v = .pointer (some ⟨B, 0, none⟩) ∧ row? w' B = some (bvs (zeros 16))⟩,
      ⟨11, 12, [], true, fun v w' => ∃ B, v = .pointer (some ⟨B, 0, none⟩) ∧ row? w' B = some (bvs (zeros 16))⟩] [(4, 31, []), (5, 32, [4]), (8, 35, [5]), (9, 36, [8]), (10, 11, []), (11, 12, [])] [12, 13] (by kernel_rfl) (by kernel_rfl) rfl ?_
  simp only [Rg.row, Rg.PT.map, List.getD_cons_zero, List.getD_cons_succ]
  go_wp2_with (first
    | ((with_reducible refine Rg.plan_pure ?_ ?_ ?_); kernel_rfl; kernel_rfl; intro _ _)
    | ((with_reducible refine Rg.plan_take ?_ ?_ ?_); kernel_rfl; kernel_rfl; intro _ _)
    | ((with_reducible refine Rg.plan_keep ?_ ?_); kernel_rfl; intro K hK)
    | (refine hK _ _ (Rg.Keep.refl _) ?_; clear hK)
    | (refine hK _ _ (Rg.Keep.of_below (by assumption)) ?_; clear hK)
    | ((with_reducible refine Rg.plan_skip ?_ ?_); kernel_rfl)
    | (with_reducible refine Rg.plan_done ?_)
    | (with_reducible refine Rg.calm_normal ?_))
  have bW : Below w.heap.size w (wB.alloc (.cells (bvs L) 22)).drew := (bb.alloc (by omega) _).drew
  have w2 : row? (wB.alloc (.cells (bvs L) 22)).drew (w.heap.size + 1 + 1) = some (bvs (zeros 16)) := by rw [row?_drew, row?_alloc_past _ _ _ (row?_lt b2)]; exact b2
  have w3 : row? (wB.alloc (.cells (bvs L) 22)).drew wB.heap.size = some (bvs L) := by simp [go_sem]
  clear b0 b1 b2 b3 bb m0 m1 m3
  refine Rg.phase_done (Rg.Phase.mk ?_ ?_ ?_)
  · refine List.forall_mem_cons.2 ⟨?_, List.forall_mem_cons.2 ⟨?_, List.forall_mem_cons.2 ⟨?_, List.forall_mem_cons.2 ⟨?_, List.forall_mem_cons.2 ⟨?_, List.forall_mem_cons.2 ⟨?_, fun r hr => (by cases hr)⟩⟩⟩⟩⟩⟩
    · rintro v w1 w2 hb ⟨B, e, h⟩; exact ⟨B, e, Rg.stable_row hb h⟩
    · exact fun v w1 w2 _ h => h
    · exact fun v w1 w2 _ h => h
    · exact fun v w1 w2 _ h => h
    · rintro v w1 w2 hb ⟨B, e, h⟩; exact ⟨B, e, Rg.stable_row hb h⟩
    · rintro v w1 w2 hb ⟨B, e, h⟩; exact ⟨B, e, Rg.stable_row hb h⟩
  · refine List.forall_mem_cons.2 ⟨?_, List.forall_mem_cons.2 ⟨?_, List.forall_mem_cons.2 ⟨?_, List.forall_mem_cons.2 ⟨?_, List.forall_mem_cons.2 ⟨?_, List.forall_mem_cons.2 ⟨?_, fun r hr => (by cases hr)⟩⟩⟩⟩⟩⟩
    · intro us wx hbx hdep K hK
      exact Rg.exec_value (v := .slice (some ⟨wx.heap.size, 0, none⟩) 3 3) (w' := wx.alloc (.cells #[.slice ao2 data.length cap2, .slice ao text.length cap, .slice (some ⟨wB.heap.size, 0, none⟩) 16 16] 24)) (by simp [go_sem, execOp, Rg.puts]) (hK _ _ _ rfl ⟨_, rfl, row?_alloc_at _ _ _ _ rfl⟩ ((Below.refl _ _).alloc (Nat.le_refl _) _) (fun _ => ⟨Nat.le_refl _, by simp [Rg.vblk]⟩))
    · intro us wx hbx hdep K hK
      obtain ⟨B4, e4, h4⟩ := (List.forall_mem_cons.1 hdep).1 (by simp)
      have hP : Pts wx (.slice (some ⟨B4, 0, none⟩) 3 3) [data, text, L] := by
        refine ⟨_, 3, rfl, fun _ => ⟨B4, 0, rfl, fun k hk => ?_⟩⟩
        rw [row?_cell h4]
        have hbw := bW.trans (hbx.mono bW.size)
        match k, hk with
        | 0, _ => exact ⟨_, rfl, hd.below hbw⟩
        | 1, _ => exact ⟨_, rfl, hs.below hbw⟩
        | 2, _ =>
          have := Sl.row (Rg.stable_row hbx w3)
          rw [hLl] at this
          exact ⟨_, rfl, this⟩
      refine Rg.exec_call (args := #[.agg (bvs H), .slice (some ⟨B4, 0, none⟩) 3 3]) (by simp [go_sem, execOp, Rg.puts, e4]) (hash_any H hHl [data, text, L] (by simp) _ _ hP) ?_
      rintro e wy ⟨rfl, hy⟩
      exact ⟨_, rfl, hK _ _ _ rfl rfl hy (fun h => (by cases h))⟩
    · intro us wx hbx hdep K hK
      refine Rg.exec_call (args := #[.agg (bvs nonce), .int .u32 (1 : Nat)]) (by simp [go_sem, execOp, Rg.puts]) (counter_any nonce 1 hn (by omega) _) ?_
      rintro e wy ⟨rfl, hy⟩
      exact ⟨_, rfl, hK _ _ _ rfl rfl hy (fun h => (by cases h))⟩
    · intro us wx hbx hdep K hK
      have e8 : us 8 = .agg (bvs (ctr nonce 1)) := (List.forall_mem_cons.1 (List.forall_mem_cons.1 (List.forall_mem_cons.1 hdep).2).2).1 (by simp)
      refine Rg.exec_call (args := #[.agg (bvs key), .agg (bvs (ctr nonce 1))]) (by simp [go_sem, execOp, Rg.puts, e8]) (block_any key (ctr nonce 1) hk (ctr_length _ _) _) ?_
      rintro e wy ⟨rfl, hy⟩
      exact ⟨_, rfl, hK _ _ _ rfl rfl hy (fun h => (by cases h))⟩
    · intro us wx hbx hdep K hK
      exact Rg.exec_value (by simp [go_sem, execOp, Rg.puts]; rfl) (hK _ _ _ rfl ⟨_, rfl, row?_alloc_at _ _ _ _ rfl⟩ ((Below.refl _ _).alloc (Nat.le_refl _) _) (fun _ => ⟨Nat.le_refl _, by simp [Rg.vblk]⟩))
    · intro us wx hbx hdep K hK
      exact Rg.exec_value (by simp [go_sem, execOp, Rg.puts]; rfl) (hK _ _ _ rfl ⟨_, rfl, row?_alloc_at _ _ _ _ rfl⟩ ((Below.refl _ _).alloc (Nat.le_refl _) _) (fun _ => ⟨Nat.le_refl _, by simp [Rg.vblk]⟩))
  · intro us wZ hbZ hJ hfr hne
    have hne0 : Rg.vblk (us 10) ≠ Rg.vblk (us 11) := hne _ (List.getElem_mem (n := 4) (by simp)) _ (List.getElem_mem (n := 5) (by simp)) (by simp) rfl rfl
    have hfr0 : (wB.alloc (.cells (bvs L) 22)).drew.heap.size ≤ Rg.vblk (us 10) := (hfr _ (List.getElem_mem (n := 4) (by simp)) rfl).1
    have hfr1 : (wB.alloc (.cells (bvs L) 22)).drew.heap.size ≤ Rg.vblk (us 11) := (hfr _ (List.getElem_mem (n := 5) (by simp)) rfl).1
    simp only [List.forall_mem_cons] at hJ
    obtain ⟨⟨B4, e4, -⟩, e5, e8, e9, ⟨BS, e10, rS⟩, ⟨BF, e11, rF⟩, -⟩ := hJ
    simp only [e10, e11, Rg.vblk] at hne0 hfr0 hfr1
    have z0 : row? wZ (w.heap.size + 1 + 1) = some (bvs (zeros 16)) := Rg.stable_row hbZ w2
    have zb : Below w.heap.size w wZ := bW.trans (hbZ.mono bW.size)
    have zs := bW.size
    simp only [Rg.puts, List.map_cons, List.map_nil, List.getD_cons_zero, List.getD_cons_succ]
    simp only [e4, e5, e8, e9, e10, e11]
    clear hdl hd hs
    generalize hS : Gcm.hash H [data, text, L] = S at *
    have hSl : S.length = 16 := by rw [← hS]; exact hash_length _ _
    generalize hF : block key (ctr nonce 1) = F at *
    have hFl : F.length = 16 := by rw [← hF]; exact block_length _ _
    have hT : tag key nonce text data = add S F := by rw [← hS, ← hF, ← hH, ← hL]; rfl
    have zE0 := below_setRow (below_setRow zb (by omega : w.heap.size ≤ BS) (bvs S)) (by omega : w.heap.size ≤ BF) (bvs F)
    have n1 : BS < wZ.heap.size := row?_lt rS
    have n2 : BF < wZ.heap.size := row?_lt rF
    simp at hfr0 hfr1
    have rF2 : row? (wZ.setRow BS (bvs S)) BF = some (bvs (zeros 16)) := by rw [row?_setRow_ne _ _ _ _ (fun e => hne0 e.symm)]; exact rF
    have E1 := Lib.hid (show row? ((wZ.setRow BS (bvs S)).setRow BF (bvs F)) BS = some (bvs S) by rw [row?_setRow_ne _ _ _ _ hne0]; exact row?_setRow_eq rS)
    have E2 := Lib.hid (row?_setRow_eq rF2 (c' := bvs F))
    have E3 := Lib.hid (show row? ((wZ.setRow BS (bvs S)).setRow BF (bvs F)) (w.heap.size + 1 + 1) = some (bvs (zeros 16)) by rw [row?_setRow_ne _ _ _ _ (by omega), row?_setRow_ne _ _ _ _ (by omega)]; exact z0)
    have NE := Lib.hid hne0
    go_wp2_with (first
      | ((with_reducible refine Rg.plan_pure ?_ ?_ ?_); kernel_rfl; kernel_rfl; intro _ _)
      | ((with_reducible refine Rg.plan_take ?_ ?_ ?_); kernel_rfl; kernel_rfl; intro _ _)
      | ((with_reducible refine Rg.plan_keep ?_ ?_); kernel_rfl; intro K hK)
      | (refine hK _ _ (Rg.Keep.refl _) ?_; clear hK)
      | (refine hK _ _ (Rg.Keep.of_below (by assumption)) ?_; clear hK)
      | ((with_reducible refine Rg.plan_skip ?_ ?_); kernel_rfl)
      | (with_reducible refine Rg.plan_done ?_)
      | (with_reducible refine Rg.calm_normal ?_))
    clear rF2 rS rF z0 hne0
    go_loopw [37] (fun v wr => ∃ k : Nat, k ≤ 16 ∧ v = .int .i64 k ∧ row? wr BS = some (bvs (upto (addF S F) S 16 k)) ∧ row? wr BF = some (bvs F) ∧ row? wr (w.heap.size + 1 + 1) = some (bvs (zeros 16)) ∧ Below w.heap.size w wr) (fun v _ => 16 - (intOf v).toNat)
    case atStart => exact ⟨0, by omega, rfl, by rw [upto_zero _ _ _ hSl]; exact E1.out, E2.out, E3.out, zE0⟩
    case round =>
      obtain ⟨k, hk, rfl, h0, h1, h2, hb⟩ := hrel
      by_cases hlt : k < 16
      · have g := upto_set (addF S F) S 16 k hlt
        have ghi := upto_hi (f := addF S F) (z := S) hlt (Nat.le_refl k)
        have G := Lib.hid g; clear g
        have H0 := Lib.hid h0
        have H1 := Lib.hid h1
        have H2 := Lib.hid h2
        have c0 := row?_cell h0
        have c1 := row?_cell h1
        have f0 := row?_frozen h0
        clear h0 h1 h2
        go_wp2_with fail
        refine Rg.wp_region_plan (Rg.row [(0, 3), (1, 3), (2, 0), (3, 3), (4, 3), (5, 0), (6, 3), (7, 3)] [8]) [8] (by kernel_rfl) (by kernel_rfl) ?_
        simp only [Rg.row, Rg.PT.map, List.map_cons, List.map_nil, List.getD_cons_zero, List.getD_cons_succ]
        go_wp2_with (first
          | ((with_reducible refine Rg.plan_pure ?_ ?_ ?_); kernel_rfl; kernel_rfl; intro _ _)
          | ((with_reducible refine Rg.plan_take ?_ ?_ ?_); kernel_rfl; kernel_rfl; intro _ _)
          | ((with_reducible refine Rg.plan_keep ?_ ?_); kernel_rfl; intro K hK)
          | (refine hK _ _ (Rg.Keep.refl _) ?_; clear hK)
          | (refine hK _ _ (Rg.Keep.of_below (by assumption)) ?_; clear hK)
          | ((with_reducible refine Rg.plan_skip ?_ ?_); kernel_rfl)
          | (with_reducible refine Rg.plan_done ?_)
          | (with_reducible refine Rg.calm_normal ?_))
        go_roundw
        case rel =>
          refine ⟨k + 1, by omega, by go_num, ?_, ?_, ?_, (hb.setCell (by show w.heap.size ≤ BS; omega) _).drew⟩
          · rw [row?_drew, row?_setCell_eq H0.out, bvs_setn]; exact congrArg (fun l => some (bvs l)) G.out
          · rw [row?_drew, row?_setCell_ne _ _ _ _ (fun e => NE.out e.symm)]; exact H1.out
          · rw [row?_drew, row?_setCell_ne _ _ _ _ (by show w.heap.size + 1 + 1 ≠ BS; omega)]; exact H2.out
        case measure => simp [intOf]; omega
      · go_wp2_with fail
        obtain rfl : k = 16 := by omega
        rw [upto_full] at h0
        have zl := hb.size
        exact ret16 (w.heap.size + 1 + 1) (bvs (add S F)) rfl rfl rfl (row?_setRow_eq h2) (by rw [bvs_size]; exact add_length _ _) ⟨by rw [hT], below_setRow hb (by omega) _⟩
end Go.Proofs.Ytdfblojnkchpdaa
