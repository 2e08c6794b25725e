/- The walk of the hash. -/
import Derived.Test.YtdfblojnkchpdaaGcmW3
namespace Go.Proofs.Ytdfblojnkchpdaa
open Go.RowKit Go.Rw Aes Gcm
attribute [local go_sem ↓] ld12 ld16 st16 al16 ldW stW alW shift_shl8 shift_shr8 shift_shl64 shift_shr64 shift_shr32 bvs_getElem? wv_0 wv_1
attribute [local go_sem] rld12 rld16 rst16 ral16 rldW rstW ralW setRow_alloc_at setRow_alloc_past setRow_drew bvs_setn wv_set0 wv_set1

set_option maxRecDepth 20000 in
set_option maxHeartbeats 1000000 in
theorem hash_any (h : List UInt8) (hh : h.length = 16) (ps : List (List UInt8)) (hps : ps.length ≤ 1000000) (v : Value) (w : World) (hP : Pts w v ps) :
    Calls Try.prog 19 #[.agg (bvs h), v] w fun e w' => e = .returned (.agg (bvs (hash h ps))) ∧ Below w.heap.size w w' := by
  obtain ⟨ao, cap, rfl, hp⟩ := hP
  go_enter Try.func19, Try.ntmps19
  go_wp2_with fail
  refine (of_any h hh _).mono ?_
  rintro e w1 ⟨rfl, hb1⟩
  have z1 := hb1.size
  simp at z1
  have r1 : row? w1 (w.heap.size + 1) = some (bvs (zeros 16)) := by rw [row?_below hb1 (by simp)]; simp [go_sem]
  have b1 : Below w.heap.size w w1 := (bel2 w _ _).trans (hb1.mono (by simp; omega))
  have l1 : w.heap.size + 1 < w1.heap.size := by omega
  clear hb1
  go_wp2_with fail
  go_loopw [15] (fun v wr => ∃ k : Nat, k ≤ ps.length ∧ v = .int .i64 k ∧ row? wr (w.heap.size + 1) = some (bvs (zeros 16)) ∧ row? wr w1.heap.size = some (wv (wof h)) ∧ row? wr (w1.heap.size + 1) = some (wv (hashParts (wof h) (ps.take k))) ∧ Below w.heap.size w wr) (fun v _ => ps.length - (intOf v).toNat)
  case atStart =>
    have l0 : w.heap.size < w1.heap.size := by omega
    exact ⟨0, by omega, rfl, by simp [go_sem, l0, l1, r1], by simp [go_sem], by simp [go_sem]; rfl, (b1.alloc (by omega) _).alloc (by first | omega | (simp; done) | (simp; omega)) _⟩
  case round =>
    obtain ⟨k, hk, rfl, h1, h2, h3, hbl⟩ := hrel
    by_cases hlt : k < ps.length
    · obtain ⟨b, off, rfl, hc⟩ := hp (by omega)
      obtain ⟨u, hu, hs⟩ := hc k hlt
      have hcell := below_cell hbl hu (cell_lt hu)
      have E := Lib.hid (hashParts_step (wof h) ps k hlt)
      generalize hashParts (wof h) (ps.take k) = y0 at h3 E
      generalize ps.getD k [] = p at hs E
      have HS := Lib.hid hs
      have H1 := Lib.hid h1
      have H2 := Lib.hid h2
      have H3 := Lib.hid h3
      have HU := Lib.hid hu
      have HC := Lib.hid hc
      clear hs hu hc h1 h2 h3
      go_wp2_with fail
      go_loopw [8] (fun v wr => ∃ q y, Sl w v q ∧ row? wr (w.heap.size + 1) = some (bvs (zeros 16)) ∧ row? wr w1.heap.size = some (wv (wof h)) ∧ row? wr (w1.heap.size + 1) = some (wv y) ∧ hashPart (wof h) y q = hashPart (wof h) y0 p ∧ Below w.heap.size w wr) (fun v _ => lenOf v)
      case atStart => exact ⟨p, y0, HS.out, H1.out, H2.out, H3.out, rfl, hbl⟩
      case round =>
        obtain ⟨q, y, hs, h1, h2, h3, he, hbq⟩ := hrel
        have hS := hs
        obtain ⟨ao', cap', rfl, hc', hn', hp'⟩ := hS
        clear hp' hn' hp hcell
        have HE := Lib.hid he
        clear he
        by_cases h0 : 0 < q.length
        · have hsq : Sl (wr.alloc (.cells (bvs (zeros 16)) 22)) (.slice ao' q.length cap') q := hs.below (hbq.alloc (by have := hbq.size; omega) _)
          have hcopy := run_copy_sl (P := Try.prog) (dT := 24) (sT := 24) (ty := 3) (elem := 5) Try.underlying24 (by kernel_rfl) 16 16 (row?_alloc_at wr (bvs (zeros 16)) 22 _ rfl) (zeros_length _) hsq
          rw [pad_copy, setRow_alloc_at _ _ _ _ _ rfl] at hcopy
          have hm1 : Nat.min q.length 16 ≤ q.length := Nat.min_le_left _ _
          have hm2 : q.drop (Nat.min q.length 16) = q.drop 16 := by
            show q.drop (min q.length 16) = _
            rcases Nat.le_total q.length 16 with h | h
            · rw [Nat.min_eq_left h, List.drop_eq_nil_of_le (Nat.le_refl _), List.drop_eq_nil_of_le h]
            · rw [Nat.min_eq_right h]
          have hm3 : 0 < Nat.min q.length 16 := by show 0 < min q.length 16; omega
          have hcut : ∀ W, (Instr.sliceAt 24 (.slice ao' q.length cap') (some (.int .i64 (Nat.min q.length 16 : Nat))) none none).run Try.prog W = .ok (.slice (cutA ao' (Nat.min q.length 16) cap') (q.length - Nat.min q.length 16) (cap' - Nat.min q.length 16)) W := fun W =>
            cut_l TB W ao' q.length cap' .i64 _ (by omega) (by omega)
          have hsc := hs.cut (Nat.min q.length 16) q.length hm1 (Nat.le_refl _)
          rw [List.take_length, hm2] at hsc
          have hstep := hashPart_step (wof h) y q h0
          generalize Nat.min q.length 16 = m at hcopy hcut hsc hm1 hm3
          have HS2 := Lib.hid hsc
          have HT := Lib.hid hstep
          have H1 := Lib.hid h1
          have H2 := Lib.hid h2
          have H3 := Lib.hid h3
          clear hsq hsc hm2 hstep hs
          go_wp2_with fail
          refine (of_any (padAt q 0) (padAt_length _ _) _).mono ?_
          rintro e wA ⟨rfl, hA⟩
          have q1 := row?_lt H1.out
          have q2 := row?_lt H2.out
          have q3 := row?_lt H3.out
          have zA := hA.size
          simp at zA
          have g1 : row? wA (w.heap.size + 1) = some (bvs (zeros 16)) := by rw [row?_below hA (by simp; omega), row?_alloc_past _ _ _ q1]; exact H1.out
          have g2 : row? wA w1.heap.size = some (wv (wof h)) := by rw [row?_below hA (by simp; omega), row?_alloc_past _ _ _ q2]; exact H2.out
          have g3 : row? wA (w1.heap.size + 1) = some (wv y) := by rw [row?_below hA (by simp; omega), row?_alloc_past _ _ _ q3]; exact H3.out
          have gb : Below w.heap.size w wA := (hbq.alloc (by omega) _).trans (hA.mono (by simp; omega))
          have d3 := row?_cell g3
          have p1 : w.heap.size + 1 < wA.heap.size := by omega
          have p2 : w1.heap.size < wA.heap.size := by omega
          have p3 : w1.heap.size + 1 < wA.heap.size := by omega
          clear hcopy hA
          go_wp2_with fail
          refine (timesw_any (wxor y (wof (padAt q 0))) (wof h) _).mono ?_
          rintro e wB ⟨rfl, hB⟩
          have zB := hB.size
          simp at zB
          have k1 : row? wB (w.heap.size + 1) = some (bvs (zeros 16)) := by rw [row?_below hB (by simp; omega), row?_alloc_past _ _ _ p1]; exact g1
          have k2 : row? wB w1.heap.size = some (wv (wof h)) := by rw [row?_below hB (by simp; omega), row?_alloc_past _ _ _ p2]; exact g2
          have k3 : row? wB (w1.heap.size + 1) = some (wv y) := by rw [row?_below hB (by simp; omega), row?_alloc_past _ _ _ p3]; exact g3
          have kb : Below w.heap.size w wB := (gb.alloc (by omega) _).trans (hB.mono (by simp; omega))
          clear g1 g2 g3 gb d3 hB
          have K1 := Lib.hid k1
          have K2 := Lib.hid k2
          clear k1 k2
          go_wp2_with fail
          go_roundw
          case rel =>
            refine ⟨q.drop 16, timesW (wxor y (wof (padAt q 0))) (wof h), HS2.out, ?_, ?_, row?_setRow_eq k3, by rw [← HT.out]; exact HE.out, below_setRow kb (by omega) _⟩
            · rw [row?_setRow_ne _ _ _ _ (by omega)]; exact K1.out
            · rw [row?_setRow_ne _ _ _ _ (by omega)]; exact K2.out
          case measure => simp [lenOf]; omega
        · obtain rfl : q = [] := List.eq_nil_of_length_eq_zero (by omega)
          have H1 := Lib.hid h1
          have H2 := Lib.hid h2
          have H3 := Lib.hid h3
          have HS3 := Lib.hid hs
          clear h1 h2 h3 hs
          go_wp2_with fail
          go_roundw
          case rel =>
            refine ⟨k + 1, by omega, by go_num, H1.out, H2.out, ?_, hbq⟩
            rw [E.out, ← HE.out]; exact H3.out
          case measure => simp [intOf]; omega
    · obtain rfl : k = ps.length := by omega
      rw [List.take_length] at h3
      go_wp2_with fail
      refine (blk_any _ _).mono ?_
      rintro e wA ⟨rfl, hA⟩
      have q1 := row?_lt h1
      have g1 : row? wA (w.heap.size + 1) = some (bvs (zeros 16)) := by rw [row?_below hA (by omega)]; exact h1
      have gb : Below w.heap.size w wA := hbl.trans (hA.mono hbl.size)
      clear h1 h2 h3 hbl hA
      go_wp2_with fail
      exact ret16 (w.heap.size + 1) (bvs (Gcm.hash h ps)) rfl rfl rfl (row?_setRow_eq g1) (by rw [bvs_size]; exact hash_length _ _) ⟨rfl, below_setRow gb (by omega) _⟩
end Go.Proofs.Ytdfblojnkchpdaa
