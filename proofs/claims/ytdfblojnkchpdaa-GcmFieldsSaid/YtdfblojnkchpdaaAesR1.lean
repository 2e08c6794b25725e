/- The document's Double, times, Box and cross: what they compute. -/
import Derived.Test.YtdfblojnkchpdaaAesRM
import Derived.Test.YtdfblojnkchpdaaAesW1
namespace Go.Proofs.Ytdfblojnkchpdaa
open Go.RowKit Go.Rw Aes
attribute [local go_sem ↓] ld16 st16 al16 ld176 st176 al176 shift_shl8 shift_shr8 bvs_getElem?
attribute [local go_sem] rst16p rld16p rld16 rst16 ral16 rld176 rst176 ral176 setRow_alloc_at setRow_alloc_past setRow_drew bvs_setn

theorem double_ge (a : UInt8) (h : 128 ≤ n8 a) : double a = shl8 a 1 ^^^ 27 := by
  have := all8 (p := fun a => 128 ≤ n8 a → double a = shl8 a 1 ^^^ 27) (by decide +kernel) a
  exact this h
theorem double_lt (a : UInt8) (h : ¬ 128 ≤ n8 a) : double a = shl8 a 1 := by
  have := all8 (p := fun a => ¬ 128 ≤ n8 a → double a = shl8 a 1) (by decide +kernel) a
  exact this h
set_option maxRecDepth 10000 in
set_option maxHeartbeats 400000 in
theorem rdouble_any (a : UInt8) (w : World) :
    Calls Try.prog 40 #[.int .u8 (n8 a : Nat)] w fun e w' => e = .returned (.int .u8 (n8 (double a) : Nat)) ∧ w = w' := by
  by_cases h : 128 ≤ n8 a
  · have E := Lib.hid (double_ge a h)
    go_enter Try.func40, Try.ntmps40
    go_wp2
    go_ret
    exact ⟨by rw [E.out]; rfl, rfl⟩
  · have E := Lib.hid (double_lt a h)
    go_enter Try.func40, Try.ntmps40
    go_wp2
    go_ret
    exact ⟨by rw [E.out]; rfl, rfl⟩

theorem n8_zero : n8 (0 : UInt8) = 0 := rfl
theorem tms_step (f : Nat) (a b c : UInt8) (h : b ≠ 0) : tms (f + 1) a b c = tms f (double a) (shr8 b 1) (if b &&& 1 == 1 then c ^^^ a else c) := by
  rw [tms, if_neg (by simpa using h)]
theorem tms_end (f : Nat) (a c : UInt8) : tms f a 0 c = c := by cases f <;> rfl
theorem n8_ne {b : UInt8} (h : b ≠ 0) : 0 < n8 b := by
  rcases Nat.eq_zero_or_pos (n8 b) with e | e
  · exact absurd (n8_inj (a := b) (b := 0) (by rw [e, n8_zero])) h
  · exact e
set_option maxHeartbeats 400000 in
theorem cross_any (s k : List UInt8) (hs : s.length = 16) (hk : k.length = 16) (w : World) :
    Calls Try.prog 41 #[.agg (bvs s), .agg (bvs k)] w fun e w' => e = .returned (.agg (bvs (add s k))) ∧ Below w.heap.size w w' := by
  go_enter Try.func41, Try.ntmps41
  go_wp2_with fail
  go_loopw [5] (fun v wr => ∃ j : Nat, j ≤ 16 ∧ v = .int .i64 j ∧ row? wr w.heap.size = some (bvs (upto (addF s k) s 16 j)) ∧ row? wr (w.heap.size + 1) = some (bvs k) ∧
      row? wr (w.heap.size + 2) = some (bvs (zeros 16)) ∧ Below w.heap.size w wr) (fun v _ => 16 - (intOf v).toNat)
  case atStart => exact ⟨0, by omega, rfl, by rw [upto_zero _ _ _ hs]; simp [go_sem], by simp [go_sem], by simp [go_sem], (bel2 _ _ _).alloc (by simp; omega) _⟩
  case round =>
    obtain ⟨j, hj, rfl, h0, h1, h2, hb⟩ := hrel
    by_cases hlt : j < 16
    · have g := upto_set (addF s k) s 16 j hlt
      have ghi := upto_hi (f := addF s k) (z := s) hlt (Nat.le_refl j)
      have G := Lib.hid g; clear g
      have H0 := Lib.hid h0
      have H1 := Lib.hid h1
      have H2 := Lib.hid h2
      have c0 := row?_cell h0
      have c1 := row?_cell h1
      have f0 := row?_frozen h0
      clear h0 h1 h2
      go_wp2_with fail
      refine Rg.wp_region_plan (Rg.row [(0, 3), (1, 3), (2, 3), (3, 0), (4, 3), (5, 3), (6, 0), (7, 3), (8, 3)] [9]) [9] (by kernel_rfl) (by kernel_rfl) ?_
      simp only [Rg.row, Rg.PT.map, List.map_cons, List.map_nil, List.getD_cons_zero, List.getD_cons_succ]
      go_wp2_with (first
        | ((with_reducible refine Rg.plan_pure ?_ ?_ ?_); kernel_rfl; kernel_rfl; intro _ _)
        | ((with_reducible refine Rg.plan_take ?_ ?_ ?_); kernel_rfl; kernel_rfl; intro _ _)
        | ((with_reducible refine Rg.plan_keep ?_ ?_); kernel_rfl; intro K hK)
        | (refine hK _ _ (Rg.Keep.refl _) ?_; clear hK)
        | (refine hK _ _ (Rg.Keep.of_below (by assumption)) ?_; clear hK)
        | ((with_reducible refine Rg.plan_skip ?_ ?_); kernel_rfl)
        | (with_reducible refine Rg.plan_done ?_)
        | (with_reducible refine Rg.calm_normal ?_))
      go_roundw
      case rel =>
        refine ⟨j + 1, by omega, by go_num, ?_, ?_, ?_, (hb.setCell (Nat.le_refl _) _).drew⟩
        · rw [row?_drew, row?_setCell_eq H0.out, bvs_setn]; exact congrArg (fun l => some (bvs l)) G.out
        · rw [row?_drew, row?_setCell_ne _ _ _ _ (by simp)]; exact H1.out
        · rw [row?_drew, row?_setCell_ne _ _ _ _ (by simp)]; exact H2.out
      case measure => simp [intOf]; omega
    · obtain rfl : j = 16 := by omega
      rw [upto_full] at h0
      go_wp2_with fail
      refine ret16 (w.heap.size + 2) (bvs (add s k)) rfl rfl rfl (row?_setRow_eq h2) (by rw [bvs_size]; exact add_length _ _) ⟨rfl, ?_⟩
      exact below_setRow hb (by omega) _

theorem byte_lit (k : Nat) (h : k < 255) : Value.int .u8 ((k : Int) + 1) = .int .u8 (n8 (UInt8.ofNat k + 1) : Nat) := by
  have e : UInt8.ofNat k + 1 = UInt8.ofNat (k + 1) := (UInt8.ofNat_add k 1).symm
  rw [e, n8_ofNat _ (by omega)]; rfl
end Go.Proofs.Ytdfblojnkchpdaa
