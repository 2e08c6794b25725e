/- The walk of a product in the field. -/
import Derived.Test.YtdfblojnkchpdaaGcmW1
namespace Go.Proofs.Ytdfblojnkchpdaa
open Go.RowKit Go.Rw Aes Gcm
attribute [local go_sem ↓] ld16 st16 al16 ldW stW alW shift_shl8 shift_shr8 shift_shl64 shift_shr64 bvs_getElem? wv_0 wv_1
attribute [local go_sem] rld16 rst16 ral16 rldW rstW ralW setRow_alloc_at setRow_alloc_past setRow_drew bvs_setn wv_set0 wv_set1

set_option maxHeartbeats 1000000 in
set_option maxRecDepth 20000 in
theorem timesw_any (x y : Wd) (w : World) :
    Calls Try.prog 28 #[.agg (wv x), .agg (wv y)] w fun e w' => e = .returned (.agg (wv (timesW x y))) ∧ Below w.heap.size w w' := by
  go_enter Try.func28, Try.ntmps28
  go_wp2_with fail
  go_loopw [8] (fun v wr => ∃ k : Nat, k ≤ 128 ∧ v = .int .i64 k ∧ row? wr w.heap.size = some (wv x) ∧ row? wr (w.heap.size + 1) = some (wv (grun x y k).2) ∧ row? wr (w.heap.size + 2) = some (wv (grun x y k).1) ∧ Below w.heap.size w wr) (fun v _ => 128 - (intOf v).toNat)
  case atStart => exact ⟨0, by omega, rfl, by simp [go_sem], by simp [go_sem]; rfl, by simp [go_sem]; rfl, bel3 _ _ _ _⟩
  case round =>
    obtain ⟨k, hk, rfl, h0, h1, h2, hbl⟩ := hrel
    by_cases hlt : k < 128
    · have E := Lib.hid (show grun x y (k + 1) = gstep x k (grun x y k) from rfl)
      generalize grun x y k = s at *
      obtain ⟨z, v⟩ := s
      dsimp only at h1 h2
      have H0 := Lib.hid h0
      have H1 := Lib.hid h1
      have H2 := Lib.hid h2
      have c0 := row?_cell h0
      have c1 := row?_cell h1
      have c2 := row?_cell h2
      have f1 := row?_frozen h1
      have f2 := row?_frozen h2
      have s0 : (k : Int) % 64 ≤ 63 := by omega
      have s1 : ((63 : Int) - (k : Int) % 64).toNat = 63 - k % 64 := by omega
      clear h0 h1 h2
      by_cases h64 : 64 ≤ k
      · cases hb : (shr64 x.2 (63 - k % 64) &&& 1 == 1)
        · have E2 := Lib.hid (show grun x y (k + 1) = (z, mulX v) by rw [E.out]; unfold gstep bit; rw [if_pos h64, hb]; rfl)
          clear E
          go_wp2_with fail
          go_roundw
          case rel =>
            refine ⟨k + 1, by omega, by go_num, ?_, ?_, ?_, ((hbl.setCell (by simp) _).setCell (by simp) _).setCell (by simp) _⟩
            · rw [row?_setCell_ne _ _ _ _ (by simp <;> omega), row?_setCell_ne _ _ _ _ (by simp <;> omega), row?_setCell_ne _ _ _ _ (by simp <;> omega)]; exact H0.out
            · rw [row?_setCell_eq (row?_setCell_eq (row?_setCell_eq H1.out _) _), wv_set0, wv_set1, wv_set0, E2.out]; rfl
            · rw [row?_setCell_ne _ _ _ _ (by simp <;> omega), row?_setCell_ne _ _ _ _ (by simp <;> omega), row?_setCell_ne _ _ _ _ (by simp <;> omega), E2.out]; exact H2.out
          case measure => simp [intOf]; omega
        · have E2 := Lib.hid (show grun x y (k + 1) = (wxor z v, mulX v) by rw [E.out]; unfold gstep bit; rw [if_pos h64, hb]; rfl)
          clear E
          go_wp2_with fail
          go_region
          all_goals (go_wp2_with fail)
          go_roundw
          case rel =>
            refine ⟨k + 1, by omega, by go_num, ?_, ?_, ?_, (((((hbl.setCell (by simp; omega) _).setCell (by simp; omega) _).setCell (by simp) _).setCell (by simp) _).setCell (by simp) _).drew⟩
            · rw [row?_drew, row?_setCell_ne _ _ _ _ (by simp <;> omega), row?_setCell_ne _ _ _ _ (by simp <;> omega), row?_setCell_ne _ _ _ _ (by simp <;> omega), row?_setCell_ne _ _ _ _ (by simp <;> omega), row?_setCell_ne _ _ _ _ (by simp <;> omega)]; exact H0.out
            · rw [row?_drew, row?_setCell_eq (row?_setCell_eq (row?_setCell_eq (by rw [row?_setCell_ne _ _ _ _ (by simp <;> omega), row?_setCell_ne _ _ _ _ (by simp <;> omega)]; exact H1.out) _) _), wv_set0, wv_set1, wv_set0, E2.out]; rfl
            · rw [row?_drew, row?_setCell_ne _ _ _ _ (by simp <;> omega), row?_setCell_ne _ _ _ _ (by simp <;> omega), row?_setCell_ne _ _ _ _ (by simp <;> omega), row?_setCell_eq (row?_setCell_eq H2.out _), wv_set0, wv_set1, E2.out]; rfl
          case measure => simp [intOf]; omega
      · cases hb : (shr64 x.1 (63 - k % 64) &&& 1 == 1)
        · have E2 := Lib.hid (show grun x y (k + 1) = (z, mulX v) by rw [E.out]; unfold gstep bit; rw [if_neg h64, hb]; rfl)
          clear E
          go_wp2_with fail
          go_roundw
          case rel =>
            refine ⟨k + 1, by omega, by go_num, ?_, ?_, ?_, ((hbl.setCell (by simp) _).setCell (by simp) _).setCell (by simp) _⟩
            · rw [row?_setCell_ne _ _ _ _ (by simp <;> omega), row?_setCell_ne _ _ _ _ (by simp <;> omega), row?_setCell_ne _ _ _ _ (by simp <;> omega)]; exact H0.out
            · rw [row?_setCell_eq (row?_setCell_eq (row?_setCell_eq H1.out _) _), wv_set0, wv_set1, wv_set0, E2.out]; rfl
            · rw [row?_setCell_ne _ _ _ _ (by simp <;> omega), row?_setCell_ne _ _ _ _ (by simp <;> omega), row?_setCell_ne _ _ _ _ (by simp <;> omega), E2.out]; exact H2.out
          case measure => simp [intOf]; omega
        · have E2 := Lib.hid (show grun x y (k + 1) = (wxor z v, mulX v) by rw [E.out]; unfold gstep bit; rw [if_neg h64, hb]; rfl)
          clear E
          go_wp2_with fail
          go_region
          all_goals (go_wp2_with fail)
          go_roundw
          case rel =>
            refine ⟨k + 1, by omega, by go_num, ?_, ?_, ?_, (((((hbl.setCell (by simp; omega) _).setCell (by simp; omega) _).setCell (by simp) _).setCell (by simp) _).setCell (by simp) _).drew⟩
            · rw [row?_drew, row?_setCell_ne _ _ _ _ (by simp <;> omega), row?_setCell_ne _ _ _ _ (by simp <;> omega), row?_setCell_ne _ _ _ _ (by simp <;> omega), row?_setCell_ne _ _ _ _ (by simp <;> omega), row?_setCell_ne _ _ _ _ (by simp <;> omega)]; exact H0.out
            · rw [row?_drew, row?_setCell_eq (row?_setCell_eq (row?_setCell_eq (by rw [row?_setCell_ne _ _ _ _ (by simp <;> omega), row?_setCell_ne _ _ _ _ (by simp <;> omega)]; exact H1.out) _) _), wv_set0, wv_set1, wv_set0, E2.out]; rfl
            · rw [row?_drew, row?_setCell_ne _ _ _ _ (by simp <;> omega), row?_setCell_ne _ _ _ _ (by simp <;> omega), row?_setCell_ne _ _ _ _ (by simp <;> omega), row?_setCell_eq (row?_setCell_eq H2.out _), wv_set0, wv_set1, E2.out]; rfl
          case measure => simp [intOf]; omega
    · go_wp2_with fail
      obtain rfl : k = 128 := by omega
      exact retW (w.heap.size + 2) (wv (timesW x y)) rfl rfl rfl (row?_setRow_eq h2) (wv_size _) ⟨rfl, below_setRow hbl (by omega) _⟩
end Go.Proofs.Ytdfblojnkchpdaa
