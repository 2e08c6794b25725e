/- The walk of the cipher. -/
import Derived.Test.YtdfblojnkchpdaaGcmW4
namespace Go.Proofs.Ytdfblojnkchpdaa
open Go.RowKit Go.Rw Aes Gcm
attribute [local go_sem ↓] ld12 ld16 st16 al16 ldW stW alW shift_shl8 shift_shr8 shift_shl64 shift_shr64 shift_shr32 bvs_getElem? wv_0 wv_1
attribute [local go_sem] rld12 rld16 rst16 ral16 rldW rstW ralW setRow_alloc_at setRow_alloc_past setRow_drew bvs_setn wv_set0 wv_set1

set_option maxRecDepth 20000 in
set_option maxHeartbeats 1000000 in
theorem cipher_any (key nonce text : List UInt8) (hk : key.length = 16) (hn : nonce.length = 12) (ht : text.length ≤ 1000000) (v : Value) (w : World) (hs : Sl w v text) :
    Calls Try.prog 22 #[.agg (bvs key), .agg (bvs nonce), v] w fun e w' =>
      ∃ g, e = .returned (.slice (some ⟨g, 0, none⟩) text.length (text.length + 16)) ∧ w'.ownsRow w.heap.size 5 1 (.slice (some ⟨g, 0, none⟩) text.length (text.length + 16)) text.length ((enc key nonce text).map bv) ∧ Below w.heap.size w w' := by
  have hS := hs
  obtain ⟨ao, cap, rfl, hc, hnn, hp⟩ := hS
  obtain ⟨i0, hi, hz0, hz1, hz2⟩ := info_parts info8
  go_enter Try.func22, Try.ntmps22
  go_wp2_with (at_make; refine wpList_make_own _ rfl _ _ 24 rfl w.heap.size 5 i0 (.int .u8 0) 1 Try.underlying24 hi hz0 hz1 _ _ _ (text.length + 16) rfl rfl (by omega) ?b1 ?b2 ?b3 ?_)
  case b1 => rw [hz2]; omega
  case b2 => unfold maxLen; omega
  case b3 => simp; omega
  intro w1 hown1 hgrow1
  have z1 := hgrow1.size
  simp at z1 hown1
  have z2 := (hown1.lt (w.heap.size + 1 + 1) rfl).2
  have r0 : row? w1 w.heap.size = some (bvs key) := by rw [grown_row0 hgrow1 (by simp; omega)]; simp [go_sem]
  have r1 : row? w1 (w.heap.size + 1) = some (bvs nonce) := by rw [grown_row0 hgrow1 (by simp)]; simp [go_sem]
  have b1 : Below w.heap.size w w1 := (bel2 w _ _).grown hgrow1 (by simp; omega) (by simp)
  have l0 : w.heap.size < w1.heap.size := by omega
  have l1 : w.heap.size + 1 < w1.heap.size := by omega
  have R0 := Lib.hid r0
  have R1 := Lib.hid r1
  have O1 := Lib.hid hown1
  clear hgrow1 r0 r1 hown1
  go_wp2_with fail
  go_loopw [7, 17] (fun o v wr => ∃ k : Nat, k ≤ text.length ∧ v = .int .i64 k ∧ o = .slice (some ⟨w.heap.size + 1 + 1, 0, none⟩) k (text.length + 16) ∧ wr.ownsRow w.heap.size 5 1 (.slice (some ⟨w.heap.size + 1 + 1, 0, none⟩) k (text.length + 16)) k ((encTo key nonce text k).map bv)
      ∧ row? wr w.heap.size = some (bvs key) ∧ row? wr (w.heap.size + 1) = some (bvs nonce) ∧ (∃ W, row? wr w1.heap.size = some (bvs W) ∧ W.length = 16 ∧ (k % 16 ≠ 0 → W = block key (ctr nonce (k / 16 + 2)))) ∧ Below w.heap.size w wr) (fun _ v _ => text.length - (intOf v).toNat)
  case atStart =>
    refine ⟨0, by omega, rfl, rfl, O1.out.alloc _, ?_, ?_, ⟨zeros 16, by simp [go_sem], zeros_length _, fun h => absurd rfl h⟩, b1.alloc (by omega) _⟩
    · rw [row?_alloc_past _ _ _ l0]; exact R0.out
    · rw [row?_alloc_past _ _ _ l1]; exact R1.out
  case round =>
    obtain ⟨k, hk', rfl, rfl, hown, h0, h1, ⟨W, h2, hW, hWk⟩, hbl⟩ := hrel
    by_cases hlt : k < text.length
    · obtain ⟨b, off, rfl, hcell⟩ := hp (by omega)
      have hck := below_cell hbl (hcell k hlt) (cell_lt (hcell k hlt))
      have H0 := Lib.hid h0
      have H1 := Lib.hid h1
      have H2 := Lib.hid h2
      have HO := Lib.hid hown
      have HC := Lib.hid hcell
      clear hcell hown
      by_cases h16 : k % 16 = 0
      · have e16 : (k : Int) % 16 = 0 := by omega
        clear hWk
        go_wp2_with fail
        clear e16
        refine Rg.wp_region_plan (Rg.row [(0, 0), (1, 0), (2, 3), (3, 3), (4, 3), (5, 3), (6, 1), (7, 1)] [8]) [8] (by kernel_rfl) (by kernel_rfl) ?_
        simp only [Rg.row, Rg.PT.map, List.map_cons, List.map_nil, List.getD_cons_zero, List.getD_cons_succ]
        go_wp2_with (first
          | ((with_reducible refine Rg.plan_pure ?_ ?_ ?_); kernel_rfl; kernel_rfl; intro _ _)
          | ((with_reducible refine Rg.plan_take ?_ ?_ ?_); kernel_rfl; kernel_rfl; intro _ _)
          | ((with_reducible refine Rg.plan_keep ?_ ?_); kernel_rfl; intro K hK)
          | (refine hK _ _ (Rg.Keep.refl _) ?_; clear hK)
          | (refine hK _ _ (Rg.Keep.of_below (by assumption)) ?_; clear hK)
          | ((with_reducible refine Rg.plan_skip ?_ ?_); kernel_rfl)
          | (with_reducible refine Rg.plan_done ?_)
          | (with_reducible refine Rg.calm_normal ?_))
        rw [show (k : Int) / 16 + 2 = ((k / 16 + 2 : Nat) : Int) from rfl]
        refine (counter_any nonce (k / 16 + 2) hn (by omega) _).mono ?_
        rintro e wA ⟨rfl, hA⟩
        refine hK _ _ (Rg.Keep.of_below hA) ?_
        clear hK
        go_wp2_with (first
          | ((with_reducible refine Rg.plan_pure ?_ ?_ ?_); kernel_rfl; kernel_rfl; intro _ _)
          | ((with_reducible refine Rg.plan_take ?_ ?_ ?_); kernel_rfl; kernel_rfl; intro _ _)
          | ((with_reducible refine Rg.plan_keep ?_ ?_); kernel_rfl; intro K hK)
          | (refine hK _ _ (Rg.Keep.refl _) ?_; clear hK)
          | (refine hK _ _ (Rg.Keep.of_below (by assumption)) ?_; clear hK)
          | ((with_reducible refine Rg.plan_skip ?_ ?_); kernel_rfl)
          | (with_reducible refine Rg.plan_done ?_)
          | (with_reducible refine Rg.calm_normal ?_))
        refine (block_any key (ctr nonce (k / 16 + 2)) hk (ctr_length _ _) _).mono ?_
        rintro e wB ⟨rfl, hB⟩
        refine hK _ _ (Rg.Keep.of_below hB) ?_
        clear hK
        have hAB : Below wr.heap.size wr wB := (Below.drew (Below.refl _ wr)).trans (hA.trans (hB.mono hA.size))
        have q1 := row?_lt H1.out
        have q2 := row?_lt H2.out
        have g2 : row? wB w1.heap.size = some (bvs W) := by rw [row?_below hAB q2]; exact H2.out
        have gb : Below w.heap.size w wB := hbl.trans (hAB.mono hbl.size)
        have HO2 := Lib.hid (own_same (w' := wB.setRow w1.heap.size (bvs (block key (ctr nonce (k / 16 + 2))))) HO.out (by rw [setRow_other _ _ _ _ (by omega)]; exact hAB.block _ (by omega)))
        have gb2 := below_setRow gb (by omega : w.heap.size ≤ w1.heap.size) (bvs (block key (ctr nonce (k / 16 + 2))))
        have g3 := row?_setRow_eq g2 (c' := bvs (block key (ctr nonce (k / 16 + 2))))
        have EF0 := encF_at key nonce text k
        have X0 := Lib.hid (show row? (wB.setRow w1.heap.size (bvs (block key (ctr nonce (k / 16 + 2))))) w.heap.size = some (bvs key) by rw [row?_setRow_ne _ _ _ _ (by omega), row?_below hAB (by omega)]; exact H0.out)
        have X1 := Lib.hid (show row? (wB.setRow w1.heap.size (bvs (block key (ctr nonce (k / 16 + 2))))) (w.heap.size + 1) = some (bvs nonce) by rw [row?_setRow_ne _ _ _ _ (by omega), row?_below hAB q1]; exact H1.out)
        have X2 := Lib.hid g3
        have XB := Lib.hid gb2
        have zAB := hAB.size
        have c3 := row?_cell g3
        clear hA hB hAB hck h0 h1 h2 
        rw [h16] at EF0
        have EF := Lib.hid EF0
        clear EF0
        go_wp2_with (first
          | (at_builtin; refine wpList_append_fits _ rfl _ _ 24 rfl w.heap.size 5 i0 1 Try.underlying24 hi hz1 (w.heap.size + 1 + 1) k (text.length + 16) _ rfl (HO2.out.alloc _) ⟨_, 0, none⟩ 1 1 [bv (encF key nonce text k)] rfl rfl ?c1A ?c2A ?c3A ?_)
          | ((with_reducible refine Rg.plan_pure ?_ ?_ ?_); kernel_rfl; kernel_rfl; intro _ _)
          | ((with_reducible refine Rg.plan_take ?_ ?_ ?_); kernel_rfl; kernel_rfl; intro _ _)
          | ((with_reducible refine Rg.plan_keep ?_ ?_); kernel_rfl; intro K hK)
          | (refine hK _ _ (Rg.Keep.refl _) ?_; clear hK)
          | (refine hK _ _ (Rg.Keep.of_below (by assumption)) ?_; clear hK)
          | ((with_reducible refine Rg.plan_skip ?_ ?_); kernel_rfl)
          | (with_reducible refine Rg.plan_done ?_)
          | (with_reducible refine Rg.calm_normal ?_))
        case c1A =>
          intro j u hj
          match j, hj with
          | 0, hj => simp at hj; subst hj; rw [EF.out]; exact cell_new _ _ _ _ (by simp)
        case c2A => exact map_bv_one [_]
        case c3A => omega
        intro w2 hown2 hgrow2
        have q0 := row?_lt H0.out
        have q1 := row?_lt H1.out
        have q2 := row?_lt H2.out
        have k0 : row? w2 w.heap.size = some (bvs key) := by rw [grown_row hgrow2 (by simp; omega) (by omega), row?_alloc_past _ _ _ (by first | omega | (simp; done) | (simp; omega))]; exact X0.out
        have k1 : row? w2 (w.heap.size + 1) = some (bvs nonce) := by rw [grown_row hgrow2 (by simp; omega) (by omega), row?_alloc_past _ _ _ (by first | omega | (simp; done) | (simp; omega))]; exact X1.out
        have k2 : row? w2 w1.heap.size = some (bvs (block key (ctr nonce (k / 16 + 2)))) := by rw [grown_row hgrow2 (by simp; omega) (by omega), row?_alloc_past _ _ _ (by first | omega | (simp; done) | (simp; omega))]; exact X2.out
        have kb : Below w.heap.size w w2 := (XB.out.alloc (by first | omega | (simp; done) | (simp; omega)) _).grown hgrow2 (by simp; omega) (by intro j hj; cases hj; omega)
        have hown3 : w2.ownsRow w.heap.size 5 1 (.slice (some ⟨w.heap.size + 1 + 1, 0, none⟩) (k + 1) (text.length + 16)) (k + 1) ((encTo key nonce text (k + 1)).map bv) := by
          rw [encTo_succ, List.map_append]; exact hown2
        have K0 := Lib.hid k0
        have K1 := Lib.hid k1
        have K2 := Lib.hid k2
        have K3 := Lib.hid hown3
        clear k0 k1 k2 hown2 hown3 hgrow2
        go_wp2_with fail
        go_roundw
        case rel => exact ⟨k + 1, by omega, by go_num, rfl, K3.out, K0.out, K1.out, ⟨_, K2.out, block_length _ _, fun h => by rw [show (k + 1) / 16 = k / 16 by omega]⟩, kb⟩
        case measure => simp [intOf]; omega
      · have h16' : ¬ (k : Int) % 16 = 0 := by omega
        have hW2 := hWk h16
        subst hW2
        clear hWk
        have g3 := H2.out
        have c3 := row?_cell g3
        have HO2 := HO
        have EF := Lib.hid (encF_at key nonce text k)
        have X0 := H0
        have X1 := H1
        have X2 := H2
        have XB := Lib.hid hbl
        clear h0 h1 h2
        go_wp2_with (at_builtin; refine wpList_append_fits _ rfl _ _ 24 rfl w.heap.size 5 i0 1 Try.underlying24 hi hz1 (w.heap.size + 1 + 1) k (text.length + 16) _ rfl (HO2.out.alloc _) ⟨_, 0, none⟩ 1 1 [bv (encF key nonce text k)] rfl rfl ?c1B ?c2B ?c3B ?_)
        case c1B =>
          intro j u hj
          match j, hj with
          | 0, hj => simp at hj; subst hj; rw [EF.out]; exact cell_new _ _ _ _ (by simp)
        case c2B => exact map_bv_one [_]
        case c3B => omega
        intro w2 hown2 hgrow2
        have q0 := row?_lt H0.out
        have q1 := row?_lt H1.out
        have q2 := row?_lt H2.out
        have k0 : row? w2 w.heap.size = some (bvs key) := by rw [grown_row hgrow2 (by simp; omega) (by omega), row?_alloc_past _ _ _ (by first | omega | (simp; done) | (simp; omega))]; exact X0.out
        have k1 : row? w2 (w.heap.size + 1) = some (bvs nonce) := by rw [grown_row hgrow2 (by simp; omega) (by omega), row?_alloc_past _ _ _ (by first | omega | (simp; done) | (simp; omega))]; exact X1.out
        have k2 : row? w2 w1.heap.size = some (bvs (block key (ctr nonce (k / 16 + 2)))) := by rw [grown_row hgrow2 (by simp; omega) (by omega), row?_alloc_past _ _ _ (by first | omega | (simp; done) | (simp; omega))]; exact X2.out
        have kb : Below w.heap.size w w2 := (XB.out.alloc (by first | omega | (simp; done) | (simp; omega)) _).grown hgrow2 (by simp; omega) (by intro j hj; cases hj; omega)
        have hown3 : w2.ownsRow w.heap.size 5 1 (.slice (some ⟨w.heap.size + 1 + 1, 0, none⟩) (k + 1) (text.length + 16)) (k + 1) ((encTo key nonce text (k + 1)).map bv) := by
          rw [encTo_succ, List.map_append]; exact hown2
        have K0 := Lib.hid k0
        have K1 := Lib.hid k1
        have K2 := Lib.hid k2
        have K3 := Lib.hid hown3
        clear k0 k1 k2 hown2 hown3 hgrow2
        go_wp2_with fail
        go_roundw
        case rel => exact ⟨k + 1, by omega, by go_num, rfl, K3.out, K0.out, K1.out, ⟨_, K2.out, block_length _ _, fun h => by rw [show (k + 1) / 16 = k / 16 by omega]⟩, kb⟩
        case measure => simp [intOf]; omega
    · obtain rfl : k = text.length := by omega
      rw [encTo_full] at hown
      have HO := Lib.hid hown
      clear hown
      go_wp2_with fail
      go_ret
      exact ⟨_, rfl, HO.out, hbl⟩
end Go.Proofs.Ytdfblojnkchpdaa
