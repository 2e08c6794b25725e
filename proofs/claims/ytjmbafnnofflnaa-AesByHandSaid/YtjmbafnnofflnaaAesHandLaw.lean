/- AesByHand holds: a block is what box, doubling and round keys make of it by hand. For every key and every block; no condition. -/
import Derived.Test.YtjmbafnnofflnaaAesKeysLaw
namespace Aes
open Go.Rw
/-- what the rounds make, n of them done -/
def hand (key inp : List UInt8) (n : Nat) : List UInt8 := if n < 10 then stateAt key inp n else block key inp
theorem hand_length (key inp n) : (hand key inp n).length = 16 := by unfold hand; split; exact stateAt_length ..; exact block_length ..
theorem hand_mid (key inp) (n : Nat) (h : n < 9) : add (mixed (boxed (hand key inp n))) (rowKey key (n + 1)) = hand key inp (n + 1) := by
  unfold hand; rw [if_pos (by omega), if_pos (by omega)]; rfl
theorem hand_end (key inp) : add (boxed (hand key inp 9)) (rowKey key (9 + 1)) = hand key inp (9 + 1) := rfl
theorem hand_ten (key inp) : hand key inp 10 = block key inp := rfl
theorem boxedF_two (s : List UInt8) (c k : Nat) (hk : k < 4) : boxedF s (4 * c + k) = box (nth s ((4 * c + 5 * k) % 16)) := by
  unfold boxedF; rw [show (4 * c + k) % 4 = k by omega, show 4 * c + k + k * 4 = 4 * c + 5 * k by omega]
/-- one column's cross -/
def colAll (b : List UInt8) (q : Nat) : UInt8 := nth b (4 * q) ^^^ nth b (4 * q + 1) ^^^ nth b (4 * q + 2) ^^^ nth b (4 * q + 3)
def nextOf (b : List UInt8) (q k : Nat) : UInt8 := if k < 3 then nth b (4 * q + k + 1) else nth b (4 * q)
theorem x0 (a b c d : UInt8) : a ^^^ (a ^^^ b ^^^ c ^^^ d) = b ^^^ c ^^^ d := by
  rw [UInt8.xor_assoc a b, UInt8.xor_assoc a, ← UInt8.xor_assoc a a, UInt8.xor_self, UInt8.zero_xor, UInt8.xor_assoc]
theorem xAll (a b c d e f : UInt8) (h : f = a ^^^ b ^^^ c ^^^ d) : a ^^^ f ^^^ e = e ^^^ b ^^^ c ^^^ d := by
  subst h; rw [x0, UInt8.xor_comm, ← UInt8.xor_assoc, ← UInt8.xor_assoc]
theorem mixedF_all (b : List UInt8) (q k : Nat) (hk : k < 4) :
    nth b (4 * q + k) ^^^ colAll b q ^^^ double (nth b (4 * q + k) ^^^ nextOf b q k) = mixedF b (4 * q + k) := by
  unfold mixedF
  rw [double_lin, show (4 * q + k) / 4 * 4 = 4 * q by omega, show (4 * q + k) % 4 = k by omega, show (4 * q + k + 1) % 4 = (k + 1) % 4 by omega, show (4 * q + k + 2) % 4 = (k + 2) % 4 by omega, show (4 * q + k + 3) % 4 = (k + 3) % 4 by omega]
  unfold colAll nextOf
  rcases (by omega : k = 0 ∨ k = 1 ∨ k = 2 ∨ k = 3) with rfl | rfl | rfl | rfl
  · exact xAll _ _ _ _ _ _ rfl
  · exact xAll _ _ _ _ _ _ (by show _ = nth b (4 * q + 1) ^^^ nth b (4 * q + 2) ^^^ nth b (4 * q + 3) ^^^ nth b (4 * q); ac_rfl)
  · exact xAll _ _ _ _ _ _ (by show _ = nth b (4 * q + 2) ^^^ nth b (4 * q + 3) ^^^ nth b (4 * q) ^^^ nth b (4 * q + 1); ac_rfl)
  · exact xAll _ _ _ _ _ _ (by show _ = nth b (4 * q + 3) ^^^ nth b (4 * q) ^^^ nth b (4 * q + 1) ^^^ nth b (4 * q + 2); ac_rfl)
end Aes
namespace Go.Proofs.Ytjmbafnnofflnaa
open Go.ChangeShapes Go.WideShapes Go.ChangeAt Go.RowKit Go.Rw Aes
attribute [local go_sem high] not_u8 eq16 eq176
attribute [local go_sem ↓] ld16 st16 al16 ld176 st176 al176 shift_shl8 shift_shr8 bvs_getElem?
attribute [local go_sem] rst16p rld16p rld16 rst16 ral16 rld176 rst176 ral176 setRow_alloc_at setRow_alloc_past setRow_drew bvs_setn

set_option maxRecDepth 10000 in
set_option maxHeartbeats 2000000 in
theorem handLaw_any (key inp : List UInt8) (hk : key.length = 16) (hi : inp.length = 16) (w : World) :
    Calls Try.prog 6 #[.agg (bvs key), .agg (bvs inp)] w fun e w' => e = .returned (.bool true) ∧ Below w.heap.size w w' := by
  have hkl := keys_length key
  go_enter Try.func6, Try.ntmps6
  go_wp2_with fail
  refine (keys_any key hk _).mono ?_
  rintro e w1 ⟨rfl, hb1⟩
  have z1 := hb1.size
  simp at z1
  have r0 : row? w1 w.heap.size = some (bvs key) := by rw [row?_below hb1 (by first | omega | (simp; done) | (simp; omega))]; simp [go_sem]
  have r1 : row? w1 (w.heap.size + 1) = some (bvs inp) := by rw [row?_below hb1 (by first | omega | (simp; done) | (simp; omega))]; simp [go_sem]
  have b1 : Below w.heap.size w w1 := ((bel2 _ _ _)).trans (hb1.mono (by first | omega | (simp; done) | (simp; omega)))
  clear hb1
  have l0 : w.heap.size < w1.heap.size := by omega
  have l1 : w.heap.size + 1 < w1.heap.size := by omega
  go_wp2_with fail
  go_loopw [7] (fun v wr => ∃ i : Nat, i ≤ 16 ∧ v = .int .i64 i ∧ row? wr w.heap.size = some (bvs key) ∧ row? wr (w.heap.size + 1) = some (bvs inp) ∧ row? wr w1.heap.size = some (bvs (keys key)) ∧ row? wr (w1.heap.size + 1) = some (bvs (upto (addF inp (rowKey key 0)) inp 16 i)) ∧ Below w.heap.size w wr) (fun v _ => 16 - (intOf v).toNat)
  case atStart =>
    refine ⟨0, by omega, rfl, ?_, ?_, ?_, ?_, (b1.alloc (by omega) _).alloc (by first | omega | (simp; done) | (simp; omega)) _⟩
    · rw [row?_alloc_past _ _ _ (by first | omega | (simp; done) | (simp; omega)), row?_alloc_past _ _ _ (by first | omega | (simp; done) | (simp; omega))]; exact r0
    · rw [row?_alloc_past _ _ _ (by first | omega | (simp; done) | (simp; omega)), row?_alloc_past _ _ _ (by first | omega | (simp; done) | (simp; omega))]; exact r1
    · simp [go_sem]
    · rw [upto_zero _ _ _ hi]; simp [go_sem]
  case round =>
    obtain ⟨i, hi', rfl, h0, h1, h2, h3, hb⟩ := hrel
    by_cases hlt : i < 16
    · have g := upto_set (addF inp (rowKey key 0)) inp 16 i hlt
      have ghi := upto_hi (f := addF inp (rowKey key 0)) (z := inp) hlt (Nat.le_refl i)
      have e0 : nth (keys key) i = nth (rowKey key 0) i := by
        have := keyF_at key 0 i hlt
        rw [← this, keys_nth _ _ (by omega)]; simp
      unfold addF at g
      rw [← e0] at g
      have G := Lib.hid g; clear g
      have I0 := Lib.hid h0
      have I1 := Lib.hid h1
      have I2 := Lib.hid h2
      have I3 := Lib.hid h3
      have c2 := row?_cell h2
      have c3 := row?_cell h3
      have f3 := row?_frozen h3
      clear h0 h1 h2 h3 e0
      go_wp2_with fail
      refine Rg.wp_region_plan (Rg.row [(0, 3), (1, 3), (2, 3), (3, 0), (4, 3), (5, 3), (6, 3), (7, 0), (8, 3), (9, 3)] [10]) [10] (by kernel_rfl) (by kernel_rfl) ?_
      simp only [Rg.row, Rg.PT.map, List.map_cons, List.map_nil, List.getD_cons_zero, List.getD_cons_succ]
      go_wp2_with (first
        | ((with_reducible refine Rg.plan_pure ?_ ?_ ?_); kernel_rfl; kernel_rfl; intro _ _)
        | ((with_reducible refine Rg.plan_take ?_ ?_ ?_); kernel_rfl; kernel_rfl; intro _ _)
        | ((with_reducible refine Rg.plan_keep ?_ ?_); kernel_rfl; intro K hK)
        | (refine hK _ _ (Rg.Keep.refl _) ?_; clear hK)
        | (refine hK _ _ (Rg.Keep.of_below (by assumption)) ?_; clear hK)
        | ((with_reducible refine Rg.plan_skip ?_ ?_); kernel_rfl)
        | (with_reducible refine Rg.plan_done ?_)
        | (with_reducible refine Rg.calm_normal ?_))
      go_roundw
      case rel =>
        refine ⟨i + 1, by omega, by go_num, ?_, ?_, ?_, ?_, (hb.setCell (by first | omega | (simp; done) | (simp; omega)) _).drew⟩
        · rw [row?_drew, row?_setCell_ne _ _ _ _ (by first | omega | (simp; done) | (simp; omega))]; exact I0.out
        · rw [row?_drew, row?_setCell_ne _ _ _ _ (by first | omega | (simp; done) | (simp; omega))]; exact I1.out
        · rw [row?_drew, row?_setCell_ne _ _ _ _ (by first | omega | (simp; done) | (simp; omega))]; exact I2.out
        · rw [row?_drew, row?_setCell_eq I3.out, bvs_setn]; exact congrArg (fun l => some (bvs l)) G.out
      case measure => simp [intOf]; omega
    · obtain rfl : i = 16 := by omega
      rw [upto_full] at h3
      have I0 := Lib.hid h0
      have I1 := Lib.hid h1
      have I2 := Lib.hid h2
      have I3 := Lib.hid h3
      have q3 := row?_lt h3
      clear h0 h1 h2 h3
      go_wp2_with fail
      push_cast
      go_loopw [8] (fun v wr => ∃ n : Nat, n ≤ 10 ∧ v = .int .i64 (n + 1 : Nat) ∧ row? wr w.heap.size = some (bvs key) ∧ row? wr (w.heap.size + 1) = some (bvs inp) ∧ row? wr w1.heap.size = some (bvs (keys key)) ∧ row? wr (w1.heap.size + 1) = some (bvs (hand key inp n)) ∧ w1.heap.size + 2 ≤ wr.heap.size ∧ Below w.heap.size w wr) (fun v _ => 16 - (intOf v).toNat)
      case atStart => exact ⟨0, by omega, rfl, I0.out, I1.out, I2.out, I3.out, by omega, hb⟩
      case round =>
        obtain ⟨n, hn, rfl, h0, h1, h2, h3, hwo, hb⟩ := hrel
        clear I0 I1 I2 I3 q3
        obtain ⟨wo, rfl⟩ : ∃ wo : World, wo = wr := ⟨_, rfl⟩
        by_cases hlt : n < 10
        · have I0 := Lib.hid h0
          have I1 := Lib.hid h1
          have I2 := Lib.hid h2
          have I3 := Lib.hid h3
          clear h0 h1 h2 h3
          go_wp2_with fail
          push_cast
          rw [show decide ((n : Int) + 1 ≤ 10) = true from decide_eq_true (by omega)]
          go_loopw [10] (fun v wi => ∃ c : Nat, c ≤ 4 ∧ v = .int .i64 c ∧ row? wi w.heap.size = some (bvs key) ∧ row? wi (w.heap.size + 1) = some (bvs inp) ∧ row? wi w1.heap.size = some (bvs (keys key)) ∧ row? wi (w1.heap.size + 1) = some (bvs (hand key inp n)) ∧ row? wi wo.heap.size = some (bvs (upto (boxedF (hand key inp n)) (zeros 16) 16 (4 * c))) ∧ Below w.heap.size w wi) (fun v _ => 16 - (intOf v).toNat)
          case atStart =>
            refine ⟨0, by omega, rfl, ?_, ?_, ?_, ?_, ?_, hb.alloc (by omega) _⟩
            · rw [row?_alloc_past _ _ _ (by omega)]; exact I0.out
            · rw [row?_alloc_past _ _ _ (by omega)]; exact I1.out
            · rw [row?_alloc_past _ _ _ (by omega)]; exact I2.out
            · rw [row?_alloc_past _ _ _ (by omega)]; exact I3.out
            · rw [upto_zero _ _ _ (zeros_length _)]; simp [go_sem]
          case round =>
            obtain ⟨c, hc, rfl, h0, h1, h2, h3, h4, hb⟩ := hrel
            clear I0 I1 I2 I3
            have I0 := Lib.hid h0
            have I1 := Lib.hid h1
            have I2 := Lib.hid h2
            have I3 := Lib.hid h3
            by_cases hlc : c < 4
            · have I4 := Lib.hid h4
              clear h0 h1 h2 h3 h4
              go_wp2_with fail
              push_cast
              rw [show decide ((c : Int) < 4) = true from decide_eq_true (by omega)]
              go_loopw [11] (fun v wi => ∃ k : Nat, k ≤ 4 ∧ v = .int .i64 k ∧ row? wi w.heap.size = some (bvs key) ∧ row? wi (w.heap.size + 1) = some (bvs inp) ∧ row? wi w1.heap.size = some (bvs (keys key)) ∧ row? wi (w1.heap.size + 1) = some (bvs (hand key inp n)) ∧ row? wi wo.heap.size = some (bvs (upto (boxedF (hand key inp n)) (zeros 16) 16 (4 * c + k))) ∧ Below w.heap.size w wi) (fun v _ => 16 - (intOf v).toNat)
              case atStart => exact ⟨0, by omega, rfl, I0.out, I1.out, I2.out, I3.out, I4.out, hb⟩
              case round =>
                obtain ⟨k, hk4, rfl, h0, h1, h2, h3, h4, hb⟩ := hrel
                clear I0 I1 I2 I3 I4
                have I0 := Lib.hid h0
                have I1 := Lib.hid h1
                have I2 := Lib.hid h2
                have I3 := Lib.hid h3
                have I4 := Lib.hid h4
                by_cases hlk : k < 4
                · have g := upto_set (boxedF (hand key inp n)) (zeros 16) 16 (4 * c + k) (by omega)
                  rw [boxedF_two _ _ _ hlk] at g
                  have G := Lib.hid g; clear g
                  have hl := hand_length key inp n
                  have c3 := row?_cell h3
                  have c4 := row?_cell h4
                  have f4 := row?_frozen h4
                  clear h0 h1 h2 h3 h4
                  go_wp2_with (go_at_call 11; refine (box_any _ _).mono ?_; rintro e w' ⟨rfl, rfl⟩)
                  go_roundw
                  case rel =>
                    refine ⟨k + 1, by omega, by go_num, ?_, ?_, ?_, ?_, ?_, hb.setCell (by first | omega | (simp; done) | (simp; omega)) _⟩
                    · rw [row?_setCell_ne _ _ _ _ (by first | omega | (simp; done) | (simp; omega))]; exact I0.out
                    · rw [row?_setCell_ne _ _ _ _ (by first | omega | (simp; done) | (simp; omega))]; exact I1.out
                    · rw [row?_setCell_ne _ _ _ _ (by first | omega | (simp; done) | (simp; omega))]; exact I2.out
                    · rw [row?_setCell_ne _ _ _ _ (by first | omega | (simp; done) | (simp; omega))]; exact I3.out
                    · rw [row?_setCell_eq I4.out, bvs_setn]; exact congrArg (fun l => some (bvs l)) G.out
                  case measure => simp [intOf]; omega
                · obtain rfl : k = 4 := by omega
                  clear h0 h1 h2 h3 h4
                  go_wp2_with fail
                  go_roundw
                  case rel => exact ⟨c + 1, by omega, by go_num, I0.out, I1.out, I2.out, I3.out, by rw [I4.out, show 4 * (c + 1) = 4 * c + 4 by omega], hb⟩
                  case measure => simp [intOf]; omega
            · obtain rfl : c = 4 := by omega
              rw [show 4 * 4 = 16 by omega, upto_full] at h4
              have h4 : row? wr wo.heap.size = some (bvs (boxed (hand key inp n))) := h4
              generalize hB : boxed (hand key inp n) = B at h4
              have lB : B.length = 16 := by rw [← hB]; exact boxed_length _
              have HB := Lib.hid hB; clear hB
              have I4 := Lib.hid h4
              clear h0 h1 h2 h3 h4
              go_wp2_with fail
              push_cast
              go_loopw [12] (fun v wi => ∃ q : Nat, q ≤ 4 ∧ (n = 9 → q = 0) ∧ v = .int .i64 (4 * q : Nat) ∧ row? wi w.heap.size = some (bvs key) ∧ row? wi (w.heap.size + 1) = some (bvs inp) ∧ row? wi w1.heap.size = some (bvs (keys key)) ∧ row? wi (w1.heap.size + 1) = some (bvs (hand key inp n)) ∧ row? wi wo.heap.size = some (bvs (upto (mixedF B) B 16 (4 * q))) ∧ Below w.heap.size w wi) (fun v _ => 16 - (intOf v).toNat)
              case atStart => exact ⟨0, by omega, fun _ => rfl, rfl, I0.out, I1.out, I2.out, I3.out, by rw [upto_zero _ _ _ lB]; exact I4.out, hb⟩
              case round =>
                obtain ⟨q, hq, hq9, rfl, h0, h1, h2, h3, h4, hb⟩ := hrel
                clear I0 I1 I2 I3 I4
                have I0 := Lib.hid h0
                have I1 := Lib.hid h1
                have I2 := Lib.hid h2
                have I3 := Lib.hid h3
                have I4 := Lib.hid h4
                by_cases hgo : q < 4 ∧ n < 9
                · obtain ⟨hlq, hl9⟩ := hgo
                  have u0 : nth (upto (mixedF B) B 16 (4 * q)) (4 * q) = nth B (4 * q) := upto_hi (by omega) (by omega)
                  have u1 : nth (upto (mixedF B) B 16 (4 * q)) (4 * q + 1) = nth B (4 * q + 1) := upto_hi (by omega) (by omega)
                  have u2 : nth (upto (mixedF B) B 16 (4 * q)) (4 * q + 2) = nth B (4 * q + 2) := upto_hi (by omega) (by omega)
                  have u3 : nth (upto (mixedF B) B 16 (4 * q)) (4 * q + 3) = nth B (4 * q + 3) := upto_hi (by omega) (by omega)
                  have c4 := row?_cell h4
                  clear h0 h1 h2 h3 h4
                  go_wp2_with fail
                  refine Rg.wp_region_plan (Rg.row [(0, 3), (1, 3), (2, 0), (3, 3), (4, 3), (5, 3), (6, 0), (7, 3), (8, 3), (9, 3), (10, 3), (11, 0), (12, 3), (13, 3), (14, 3), (15, 3), (16, 0), (17, 3), (18, 3)] []) [] (by kernel_rfl) (by kernel_rfl) ?_
                  simp only [Rg.row, Rg.PT.map, List.map_nil, List.getD_cons_zero, List.getD_cons_succ]
                  go_wp2_with (first
                    | ((with_reducible refine Rg.plan_pure ?_ ?_ ?_); kernel_rfl; kernel_rfl; intro _ _)
                    | ((with_reducible refine Rg.plan_take ?_ ?_ ?_); kernel_rfl; kernel_rfl; intro _ _)
                    | ((with_reducible refine Rg.plan_keep ?_ ?_); kernel_rfl; intro K hK)
                    | (refine hK _ _ (Rg.Keep.refl _) ?_; clear hK)
                    | (refine hK _ _ (Rg.Keep.of_below (by assumption)) ?_; clear hK)
                    | ((with_reducible refine Rg.plan_skip ?_ ?_); kernel_rfl)
                    | (with_reducible refine Rg.plan_done ?_)
                    | (with_reducible refine Rg.calm_normal ?_))
                  clear c4 u0 u1 u2 u3
                  push_cast
                  go_loopw [15] (fun v wi => ∃ k : Nat, k ≤ 4 ∧ v = .int .i64 k ∧ row? wi w.heap.size = some (bvs key) ∧ row? wi (w.heap.size + 1) = some (bvs inp) ∧ row? wi w1.heap.size = some (bvs (keys key)) ∧ row? wi (w1.heap.size + 1) = some (bvs (hand key inp n)) ∧ row? wi wo.heap.size = some (bvs (upto (mixedF B) B 16 (4 * q + k))) ∧ Below w.heap.size w wi) (fun v _ => 16 - (intOf v).toNat)
                  case atStart => exact ⟨0, by omega, rfl, by rw [row?_drew]; exact I0.out, by rw [row?_drew]; exact I1.out, by rw [row?_drew]; exact I2.out, by rw [row?_drew]; exact I3.out, by rw [row?_drew]; exact I4.out, hb.drew⟩
                  case round =>
                    obtain ⟨k, hk4, rfl, h0, h1, h2, h3, h4, hb⟩ := hrel
                    clear I0 I1 I2 I3 I4
                    have I0 := Lib.hid h0
                    have I1 := Lib.hid h1
                    have I2 := Lib.hid h2
                    have I3 := Lib.hid h3
                    have I4 := Lib.hid h4
                    by_cases hlk : k < 4
                    · have g := upto_set (mixedF B) B 16 (4 * q + k) (by omega)
                      rw [← mixedF_all _ _ _ hlk] at g
                      unfold colAll nextOf at g
                      have uk : nth (upto (mixedF B) B 16 (4 * q + k)) (4 * q + k) = nth B (4 * q + k) := upto_hi (by omega) (by omega)
                      have c4 := row?_cell h4
                      have f4 := row?_frozen h4
                      by_cases hl3 : k < 3
                      · have un : nth (upto (mixedF B) B 16 (4 * q + k)) (4 * q + k + 1) = nth B (4 * q + k + 1) := upto_hi (by omega) (by omega)
                        rw [if_pos hl3] at g
                        have G := Lib.hid g; clear g
                        clear h0 h1 h2 h3 h4
                        go_wp2_with fail
                        refine Rg.wp_region_plan (Rg.row [(0, 3), (1, 3), (2, 3), (3, 3), (4, 3), (5, 3), (6, 3), (7, 0), (8, 3), (9, 3), (10, 3), (11, 3), (12, 3), (13, 3), (14, 0), (15, 3), (16, 3), (17, 1), (18, 3), (19, 3)] [20]) [20] (by kernel_rfl) (by kernel_rfl) ?_
                        simp only [Rg.row, Rg.PT.map, List.map_cons, List.map_nil, List.getD_cons_zero, List.getD_cons_succ]
                        go_wp2_with (first
                          | (go_at_call 13; refine (double_any _ _).mono ?_; rintro e w' ⟨rfl, rfl⟩)
                          | ((with_reducible refine Rg.plan_pure ?_ ?_ ?_); kernel_rfl; kernel_rfl; intro _ _)
                          | ((with_reducible refine Rg.plan_take ?_ ?_ ?_); kernel_rfl; kernel_rfl; intro _ _)
                          | ((with_reducible refine Rg.plan_keep ?_ ?_); kernel_rfl; intro K hK)
                          | (refine hK _ _ (Rg.Keep.refl _) ?_; clear hK)
                          | (refine hK _ _ (Rg.Keep.of_below (by assumption)) ?_; clear hK)
                          | ((with_reducible refine Rg.plan_skip ?_ ?_); kernel_rfl)
                          | (with_reducible refine Rg.plan_done ?_)
                          | (with_reducible refine Rg.calm_normal ?_))
                        go_roundw
                        case rel =>
                          refine ⟨k + 1, by omega, by go_num, ?_, ?_, ?_, ?_, ?_, (hb.setCell (by first | omega | (simp; done) | (simp; omega)) _).drew⟩
                          · rw [row?_drew, row?_setCell_ne _ _ _ _ (by first | omega | (simp; done) | (simp; omega))]; exact I0.out
                          · rw [row?_drew, row?_setCell_ne _ _ _ _ (by first | omega | (simp; done) | (simp; omega))]; exact I1.out
                          · rw [row?_drew, row?_setCell_ne _ _ _ _ (by first | omega | (simp; done) | (simp; omega))]; exact I2.out
                          · rw [row?_drew, row?_setCell_ne _ _ _ _ (by first | omega | (simp; done) | (simp; omega))]; exact I3.out
                          · rw [row?_drew, row?_setCell_eq I4.out, bvs_setn]; exact congrArg (fun l => some (bvs l)) G.out
                        case measure => simp [intOf]; omega
                      · obtain rfl : k = 3 := by omega
                        rw [if_neg hl3] at g
                        have G := Lib.hid g; clear g
                        clear h0 h1 h2 h3 h4
                        go_wp2_with fail
                        refine Rg.wp_region_plan (Rg.row [(0, 3), (1, 3), (2, 3), (3, 3), (4, 3), (5, 3), (6, 3), (7, 0), (8, 3), (9, 3), (10, 3), (11, 3), (12, 3), (13, 3), (14, 0), (15, 3), (16, 3), (17, 1), (18, 3), (19, 3)] [20]) [20] (by kernel_rfl) (by kernel_rfl) ?_
                        simp only [Rg.row, Rg.PT.map, List.map_cons, List.map_nil, List.getD_cons_zero, List.getD_cons_succ]
                        go_wp2_with (first
                          | (go_at_call 13; refine (double_any _ _).mono ?_; rintro e w' ⟨rfl, rfl⟩)
                          | ((with_reducible refine Rg.plan_pure ?_ ?_ ?_); kernel_rfl; kernel_rfl; intro _ _)
                          | ((with_reducible refine Rg.plan_take ?_ ?_ ?_); kernel_rfl; kernel_rfl; intro _ _)
                          | ((with_reducible refine Rg.plan_keep ?_ ?_); kernel_rfl; intro K hK)
                          | (refine hK _ _ (Rg.Keep.refl _) ?_; clear hK)
                          | (refine hK _ _ (Rg.Keep.of_below (by assumption)) ?_; clear hK)
                          | ((with_reducible refine Rg.plan_skip ?_ ?_); kernel_rfl)
                          | (with_reducible refine Rg.plan_done ?_)
                          | (with_reducible refine Rg.calm_normal ?_))
                        go_roundw
                        case rel =>
                          refine ⟨3 + 1, by omega, rfl, ?_, ?_, ?_, ?_, ?_, (hb.setCell (by first | omega | (simp; done) | (simp; omega)) _).drew⟩
                          · rw [row?_drew, row?_setCell_ne _ _ _ _ (by first | omega | (simp; done) | (simp; omega))]; exact I0.out
                          · rw [row?_drew, row?_setCell_ne _ _ _ _ (by first | omega | (simp; done) | (simp; omega))]; exact I1.out
                          · rw [row?_drew, row?_setCell_ne _ _ _ _ (by first | omega | (simp; done) | (simp; omega))]; exact I2.out
                          · rw [row?_drew, row?_setCell_ne _ _ _ _ (by first | omega | (simp; done) | (simp; omega))]; exact I3.out
                          · rw [row?_drew, row?_setCell_eq I4.out, bvs_setn]; exact congrArg (fun l => some (bvs l)) G.out
                        case measure => simp [intOf]
                    · obtain rfl : k = 4 := by omega
                      clear h0 h1 h2 h3 h4
                      go_wp2_with fail
                      go_roundw
                      case rel => exact ⟨q + 1, by omega, by omega, by go_num, I0.out, I1.out, I2.out, I3.out, by rw [I4.out, show 4 * (q + 1) = 4 * q + 4 by omega], hb⟩
                      case measure => simp [intOf]; omega
                · by_cases h9 : n < 9
                  · obtain rfl : q = 4 := by omega
                    rw [show 4 * 4 = 16 by omega, upto_full] at h4
                    have h4 : row? wr wo.heap.size = some (bvs (mixed B)) := h4
                    have hT : add (mixed B) (rowKey key (n + 1)) = hand key inp (n + 1) := by rw [← HB.out]; exact hand_mid key inp n h9
                    have lT : (mixed B).length = 16 := mixed_length _
                    generalize mixed B = T at h4 hT lT
                    have K0 := Lib.hid h0
                    have K1 := Lib.hid h1
                    have K2 := Lib.hid h2
                    have K3 := Lib.hid h3
                    have K4 := Lib.hid h4
                    clear h0 h1 h2 h3 h4 I0 I1 I2 I3 I4
                    go_wp2_with fail
                    push_cast
                    go_loopw [17] (fun v wi => ∃ i : Nat, i ≤ 16 ∧ v = .int .i64 i ∧ row? wi w.heap.size = some (bvs key) ∧ row? wi (w.heap.size + 1) = some (bvs inp) ∧ row? wi w1.heap.size = some (bvs (keys key)) ∧ row? wi (w1.heap.size + 1) = some (bvs (upto (addF T (rowKey key (n + 1))) (hand key inp n) 16 i)) ∧ row? wi wo.heap.size = some (bvs T) ∧ w1.heap.size + 2 ≤ wo.heap.size ∧ Below w.heap.size w wi) (fun v _ => 16 - (intOf v).toNat)
                    case atStart => exact ⟨0, by omega, rfl, K0.out, K1.out, K2.out, by rw [upto_zero _ _ _ (hand_length ..)]; exact K3.out, K4.out, hwo, hb⟩
                    case round =>
                      obtain ⟨i, hi, rfl, h0, h1, h2, h3, h4, -, hb⟩ := hrel
                      by_cases hlt : i < 16
                      · have g := upto_set (addF T (rowKey key (n + 1))) (hand key inp n) 16 i hlt
                        unfold addF at g
                        rw [← keyF_at key (n + 1) i hlt, ← keys_nth key _ (by omega), show 16 * (n + 1) + i = (n + 1) * 16 + i by omega] at g
                        have G := Lib.hid g; clear g
                        have I0 := Lib.hid h0
                        have I1 := Lib.hid h1
                        have I2 := Lib.hid h2
                        have I3 := Lib.hid h3
                        have I4 := Lib.hid h4
                        have c2 := row?_cell h2
                        have c3 := row?_cell h3
                        have c4 := row?_cell h4
                        have f3 := row?_frozen h3
                        clear h0 h1 h2 h3 h4
                        go_wp2_with fail
                        refine Rg.wp_region_plan (Rg.row [(0, 3), (1, 3), (2, 3), (3, 0), (4, 3), (5, 3), (6, 3), (7, 3), (8, 0), (9, 3), (10, 3)] [11]) [11] (by kernel_rfl) (by kernel_rfl) ?_
                        simp only [Rg.row, Rg.PT.map, List.map_cons, List.map_nil, List.getD_cons_zero, List.getD_cons_succ]
                        go_wp2_with (first
                          | ((with_reducible refine Rg.plan_pure ?_ ?_ ?_); kernel_rfl; kernel_rfl; intro _ _)
                          | ((with_reducible refine Rg.plan_take ?_ ?_ ?_); kernel_rfl; kernel_rfl; intro _ _)
                          | ((with_reducible refine Rg.plan_keep ?_ ?_); kernel_rfl; intro K hK)
                          | (refine hK _ _ (Rg.Keep.refl _) ?_; clear hK)
                          | (refine hK _ _ (Rg.Keep.of_below (by assumption)) ?_; clear hK)
                          | ((with_reducible refine Rg.plan_skip ?_ ?_); kernel_rfl)
                          | (with_reducible refine Rg.plan_done ?_)
                          | (with_reducible refine Rg.calm_normal ?_))
                        go_roundw
                        case rel =>
                          refine ⟨i + 1, by omega, by go_num, ?_, ?_, ?_, ?_, ?_, hwo, (hb.setCell (by first | omega | (simp; done) | (simp; omega)) _).drew⟩
                          · rw [row?_drew, row?_setCell_ne _ _ _ _ (by first | omega | (simp; done) | (simp; omega))]; exact I0.out
                          · rw [row?_drew, row?_setCell_ne _ _ _ _ (by first | omega | (simp; done) | (simp; omega))]; exact I1.out
                          · rw [row?_drew, row?_setCell_ne _ _ _ _ (by first | omega | (simp; done) | (simp; omega))]; exact I2.out
                          · rw [row?_drew, row?_setCell_eq I3.out, bvs_setn]; first | exact congrArg (fun l => some (bvs l)) G.out | (unfold addF; exact congrArg (fun l => some (bvs l)) G.out)
                          · rw [row?_drew, row?_setCell_ne _ _ _ _ (by first | omega | (simp; done) | (simp; omega))]; exact I4.out
                        case measure => simp [intOf]; omega
                      · obtain rfl : i = 16 := by omega
                        have I0 := Lib.hid h0
                        have I1 := Lib.hid h1
                        have I2 := Lib.hid h2
                        rw [upto_full] at h3
                        have I3 := Lib.hid h3
                        have q4 := row?_lt h4
                        clear h0 h1 h2 h3 h4
                        go_wp2_with fail
                        go_roundw
                        case rel => exact ⟨n + 1, by omega, by go_num, I0.out, I1.out, I2.out, I3.out.trans (congrArg (fun l => some (bvs l)) hT), by omega, hb⟩
                        case measure => simp [intOf]; omega
                  · obtain rfl : n = 9 := by omega
                    obtain rfl : q = 0 := hq9 rfl
                    rw [show 4 * 0 = 0 by omega, upto_zero _ _ _ lB] at h4
                    have hT : add B (rowKey key (9 + 1)) = hand key inp (9 + 1) := by rw [← HB.out]; exact hand_end key inp
                    have lT : B.length = 16 := lB
                    clear lB
                    have K0 := Lib.hid h0
                    have K1 := Lib.hid h1
                    have K2 := Lib.hid h2
                    have K3 := Lib.hid h3
                    have K4 := Lib.hid h4
                    clear h0 h1 h2 h3 h4 I0 I1 I2 I3 I4
                    go_wp2_with fail
                    push_cast
                    go_loopw [17] (fun v wi => ∃ i : Nat, i ≤ 16 ∧ v = .int .i64 i ∧ row? wi w.heap.size = some (bvs key) ∧ row? wi (w.heap.size + 1) = some (bvs inp) ∧ row? wi w1.heap.size = some (bvs (keys key)) ∧ row? wi (w1.heap.size + 1) = some (bvs (upto (addF B (rowKey key (9 + 1))) (hand key inp 9) 16 i)) ∧ row? wi wo.heap.size = some (bvs B) ∧ w1.heap.size + 2 ≤ wo.heap.size ∧ Below w.heap.size w wi) (fun v _ => 16 - (intOf v).toNat)
                    case atStart => exact ⟨0, by omega, rfl, K0.out, K1.out, K2.out, by rw [upto_zero _ _ _ (hand_length ..)]; exact K3.out, K4.out, hwo, hb⟩
                    case round =>
                      obtain ⟨i, hi, rfl, h0, h1, h2, h3, h4, -, hb⟩ := hrel
                      by_cases hlt : i < 16
                      · have g := upto_set (addF B (rowKey key (9 + 1))) (hand key inp 9) 16 i hlt
                        unfold addF at g
                        rw [← keyF_at key (9 + 1) i hlt, ← keys_nth key _ (by omega), show 16 * (9 + 1) + i = (9 + 1) * 16 + i by omega] at g
                        have G := Lib.hid g; clear g
                        have I0 := Lib.hid h0
                        have I1 := Lib.hid h1
                        have I2 := Lib.hid h2
                        have I3 := Lib.hid h3
                        have I4 := Lib.hid h4
                        have c2 := row?_cell h2
                        have c3 := row?_cell h3
                        have c4 := row?_cell h4
                        have f3 := row?_frozen h3
                        clear h0 h1 h2 h3 h4
                        go_wp2_with fail
                        refine Rg.wp_region_plan (Rg.row [(0, 3), (1, 3), (2, 3), (3, 0), (4, 3), (5, 3), (6, 3), (7, 3), (8, 0), (9, 3), (10, 3)] [11]) [11] (by kernel_rfl) (by kernel_rfl) ?_
                        simp only [Rg.row, Rg.PT.map, List.map_cons, List.map_nil, List.getD_cons_zero, List.getD_cons_succ]
                        go_wp2_with (first
                          | ((with_reducible refine Rg.plan_pure ?_ ?_ ?_); kernel_rfl; kernel_rfl; intro _ _)
                          | ((with_reducible refine Rg.plan_take ?_ ?_ ?_); kernel_rfl; kernel_rfl; intro _ _)
                          | ((with_reducible refine Rg.plan_keep ?_ ?_); kernel_rfl; intro K hK)
                          | (refine hK _ _ (Rg.Keep.refl _) ?_; clear hK)
                          | (refine hK _ _ (Rg.Keep.of_below (by assumption)) ?_; clear hK)
                          | ((with_reducible refine Rg.plan_skip ?_ ?_); kernel_rfl)
                          | (with_reducible refine Rg.plan_done ?_)
                          | (with_reducible refine Rg.calm_normal ?_))
                        go_roundw
                        case rel =>
                          refine ⟨i + 1, by omega, by go_num, ?_, ?_, ?_, ?_, ?_, hwo, (hb.setCell (by first | omega | (simp; done) | (simp; omega)) _).drew⟩
                          · rw [row?_drew, row?_setCell_ne _ _ _ _ (by first | omega | (simp; done) | (simp; omega))]; exact I0.out
                          · rw [row?_drew, row?_setCell_ne _ _ _ _ (by first | omega | (simp; done) | (simp; omega))]; exact I1.out
                          · rw [row?_drew, row?_setCell_ne _ _ _ _ (by first | omega | (simp; done) | (simp; omega))]; exact I2.out
                          · rw [row?_drew, row?_setCell_eq I3.out, bvs_setn]; first | exact congrArg (fun l => some (bvs l)) G.out | (unfold addF; exact congrArg (fun l => some (bvs l)) G.out)
                          · rw [row?_drew, row?_setCell_ne _ _ _ _ (by first | omega | (simp; done) | (simp; omega))]; exact I4.out
                        case measure => simp [intOf]; omega
                      · obtain rfl : i = 16 := by omega
                        have I0 := Lib.hid h0
                        have I1 := Lib.hid h1
                        have I2 := Lib.hid h2
                        rw [upto_full] at h3
                        have I3 := Lib.hid h3
                        have q4 := row?_lt h4
                        clear h0 h1 h2 h3 h4
                        go_wp2_with fail
                        go_roundw
                        case rel => exact ⟨9 + 1, by omega, by go_num, I0.out, I1.out, I2.out, I3.out.trans (congrArg (fun l => some (bvs l)) hT), by omega, hb⟩
                        case measure => simp [intOf]
        · obtain rfl : n = 10 := by omega
          rw [hand_ten] at h3
          have hbl := block_length key inp
          go_wp2_with fail
          refine Rg.wp_region_plan (Rg.row [(0, 0), (1, 0), (3, 0), (2, 1), (4, 1), (5, 3), (6, 3), (7, 0), (8, 0), (9, 1), (10, 3), (11, 3), (12, 1), (13, 3), (14, 3)] []) [] (by kernel_rfl) (by kernel_rfl) ?_
          simp only [Rg.row, Rg.PT.map, List.map_nil, List.getD_cons_zero, List.getD_cons_succ]
          go_wp2_with (first
            | ((with_reducible refine Rg.plan_pure ?_ ?_ ?_); kernel_rfl; kernel_rfl; intro _ _)
            | ((with_reducible refine Rg.plan_take ?_ ?_ ?_); kernel_rfl; kernel_rfl; intro _ _)
            | ((with_reducible refine Rg.plan_keep ?_ ?_); kernel_rfl; intro K hK)
            | (refine hK _ _ (Rg.Keep.refl _) ?_; clear hK)
            | (refine hK _ _ (Rg.Keep.of_below (by assumption)) ?_; clear hK)
            | ((with_reducible refine Rg.plan_skip ?_ ?_); kernel_rfl)
            | (with_reducible refine Rg.plan_done ?_)
            | (with_reducible refine Rg.calm_normal ?_))
          refine (block_any key inp hk hi _).mono ?_
          rintro e wA ⟨rfl, hA⟩
          refine hK _ _ (Rg.Keep.of_below hA) ?_
          clear hK
          have hAC : Below wo.heap.size wo wA := (Below.drew (Below.refl _ wo)).trans hA
          have g0 : row? wA w.heap.size = some (bvs key) := by rw [row?_below hAC (by omega)]; exact h0
          have g2 : row? wA w1.heap.size = some (bvs (keys key)) := by rw [row?_below hAC (by omega)]; exact h2
          have g3 : row? wA (w1.heap.size + 1) = some (bvs (block key inp)) := by rw [row?_below hAC (by omega)]; exact h3
          have gb : Below w.heap.size w wA := hb.trans (hAC.mono (by omega))
          have zA := hAC.size
          clear h0 h1 h2 h3 hb hA hAC
          have hp : (loadAgg 22 (.pointer (some ⟨w1.heap.size, 0, none⟩))).run Try.prog wA = .ok (.agg (bvs key)) wA := by
            unfold loadAgg
            rw [run_loadAt_part Ag16 (c := bvs (keys key)) (o := 0) g2 (by rw [bvs_size, keys_length]; omega), bvs_extract]
            exact congrArg (fun l => Result.ok (Value.agg (bvs l)) wA) (keys_part key hk 0 (by omega))
          go_wp2_with (first
            | ((with_reducible refine Rg.plan_pure ?_ ?_ ?_); kernel_rfl; kernel_rfl; intro _ _)
            | ((with_reducible refine Rg.plan_take ?_ ?_ ?_); kernel_rfl; kernel_rfl; intro _ _)
            | ((with_reducible refine Rg.plan_keep ?_ ?_); kernel_rfl; intro K hK)
            | (refine hK _ _ (Rg.Keep.refl _) ?_; clear hK)
            | (refine hK _ _ (Rg.Keep.of_below (by assumption)) ?_; clear hK)
            | ((with_reducible refine Rg.plan_skip ?_ ?_); kernel_rfl)
            | (with_reducible refine Rg.plan_done ?_)
            | (with_reducible refine Rg.calm_normal ?_))
          refine hK _ _ (Rg.Keep.refl _) ?_
          clear hK
          go_wp2_with (first
            | ((with_reducible refine Rg.plan_pure ?_ ?_ ?_); kernel_rfl; kernel_rfl; intro _ _)
            | ((with_reducible refine Rg.plan_take ?_ ?_ ?_); kernel_rfl; kernel_rfl; intro _ _)
            | ((with_reducible refine Rg.plan_keep ?_ ?_); kernel_rfl; intro K hK)
            | (refine hK _ _ (Rg.Keep.refl _) ?_; clear hK)
            | (refine hK _ _ (Rg.Keep.of_below (by assumption)) ?_; clear hK)
            | ((with_reducible refine Rg.plan_skip ?_ ?_); kernel_rfl)
            | (with_reducible refine Rg.plan_done ?_)
            | (with_reducible refine Rg.calm_normal ?_))
          refine hK _ _ (Rg.Keep.refl _) ?_
          clear hK
          go_wp2_with (first
            | ((with_reducible refine Rg.plan_pure ?_ ?_ ?_); kernel_rfl; kernel_rfl; intro _ _)
            | ((with_reducible refine Rg.plan_take ?_ ?_ ?_); kernel_rfl; kernel_rfl; intro _ _)
            | ((with_reducible refine Rg.plan_keep ?_ ?_); kernel_rfl; intro K hK)
            | (refine hK _ _ (Rg.Keep.refl _) ?_; clear hK)
            | (refine hK _ _ (Rg.Keep.of_below (by assumption)) ?_; clear hK)
            | ((with_reducible refine Rg.plan_skip ?_ ?_); kernel_rfl)
            | (with_reducible refine Rg.plan_done ?_)
            | (with_reducible refine Rg.calm_normal ?_))
          refine (awake_any _).mono ?_
          rintro e wB ⟨rfl, hB⟩
          refine hK _ _ (Rg.Keep.of_below hB) ?_
          clear hK
          have gB : Below w.heap.size w wB := gb.trans (hB.mono (by omega))
          go_wp2_with (first
            | ((with_reducible refine Rg.plan_pure ?_ ?_ ?_); kernel_rfl; kernel_rfl; intro _ _)
            | ((with_reducible refine Rg.plan_take ?_ ?_ ?_); kernel_rfl; kernel_rfl; intro _ _)
            | ((with_reducible refine Rg.plan_keep ?_ ?_); kernel_rfl; intro K hK)
            | (refine hK _ _ (Rg.Keep.refl _) ?_; clear hK)
            | (refine hK _ _ (Rg.Keep.of_below (by assumption)) ?_; clear hK)
            | ((with_reducible refine Rg.plan_skip ?_ ?_); kernel_rfl)
            | (with_reducible refine Rg.plan_done ?_)
            | (with_reducible refine Rg.calm_normal ?_))
          go_ret
          exact ⟨rfl, gB⟩
namespace aesByHandP
theorem own : ownKnob Try.prog.godebug = none := by kernel_rfl
theorem laidOut : laidOutB Try.prog = true := by kernel_rfl
theorem readable : (Try.f6.params.toList.all fun t => Try.prog.readableRec t && decide (t < Try.prog.types.size)) = true := by kernel_rfl
theorem contract (H : Type) (enc : TypeId × Value → H) (W : World) (base : Nat) (args : Array Value) (ds gs : List (DataW H)) (before : List MemPlace)
    (hval : ∀ (j : Nat) t v, Try.f6.params[j]? = some t → args[j]? = some v → Value.okWide Try.prog W .any base t v)
    (hW : DataW.Whole enc Try.prog Try.f6.params.toList Rows.aesByHandSpec.vars false W args.toList ds gs before) :
    Calls Try.prog 6 args W fun e W' => ∃ v, e = .returned v ∧ Rows.aesByHandSpec.post enc Try.prog Try.f6 false true false false W args v W' := by
  have hW' := hW
  obtain ⟨p, q, hA0, hV, rfl, hfz, hnd⟩ := hW
  have hA : DataW.TrodAll enc Try.prog W 0 (fun _ => true) true Try.f6.params.toList args.toList ds p := hA0
  rw [Try.params6] at hA hval
  obtain ⟨v0, vs0, d0, ds0, p0, q0, hargs, rfl, rfl, h0, r0⟩ := trodAll_cons hA
  obtain ⟨v1, vs1, d1, ds1, p1, q1, rfl, rfl, rfl, h1, r1⟩ := trodAll_cons r0
  obtain ⟨rfl, rfl, rfl⟩ := trodAll_nil r1
  obtain rfl : args = #[v0, v1] := by cases args; simp_all
  obtain ⟨key, hk, rfl⟩ := Law.open_bytes Try.underlying22 (by kernel_rfl) ⟨List.replicate 16 5, by kernel_rfl, by kernel_rfl⟩ Try.underlying5 (hval 0 22 v0 rfl rfl)
  obtain ⟨inp, hi, rfl⟩ := Law.open_bytes Try.underlying22 (by kernel_rfl) ⟨List.replicate 16 5, by kernel_rfl, by kernel_rfl⟩ Try.underlying5 (hval 1 22 v1 rfl rfl)
  refine (handLaw_any key inp hk hi W).mono fun e W' ⟨he, hb⟩ => ?_
  subst he
  exact ⟨_, rfl, Law.post_of_law laidOut readable hW' rfl hb rfl Try.underlying4 rfl rfl rfl⟩
set_option maxRecDepth 100000 in
theorem lifted (os : Os) (started : os.Started) (H : Type) (enc : TypeId × Value → H) :
    ReturnsInHanded {} Try.checked os 6 .any (Rows.aesByHandSpec.pre6 enc Try.prog Try.f6 Rows.aesByHandRow.domain false) (Rows.aesByHandSpec.post enc Try.prog Try.f6 false true false false) := by
  refine returnsInHanded_of_change (C := Try.checked) own started (by kernel_rfl) Try.func6
    (ChangeSpec.witness6 (enc := enc) (C := Try.checked) false ⟨#[], #[.agg #[.int .u8 0, .int .u8 0, .int .u8 0, .int .u8 0, .int .u8 0, .int .u8 0, .int .u8 0, .int .u8 0, .int .u8 0, .int .u8 0, .int .u8 0, .int .u8 0, .int .u8 0, .int .u8 0, .int .u8 0, .int .u8 0], .agg #[.int .u8 0, .int .u8 0, .int .u8 0, .int .u8 0, .int .u8 0, .int .u8 0, .int .u8 0, .int .u8 0, .int .u8 0, .int .u8 0, .int .u8 0, .int .u8 0, .int .u8 0, .int .u8 0, .int .u8 0, .int .u8 0]], []⟩ 8 (by kernel_rfl) (by kernel_rfl) (by kernel_rfl) (by kernel_rfl)) ?_
  intro W base args ds gs before hval hW _ _
  exact contract H enc W base args ds gs before hval hW
theorem said : Rows.AesByHandSaid :=
  OpenClaim.holds_of_wide 6 Try.f6 rfl rfl rfl rfl rfl rfl rfl ⟨rfl, rfl, rfl, rfl, rfl⟩ rfl rfl rfl rfl rfl (by kernel_rfl) Try.func6 (by kernel_rfl)
    (of_decide_eq_true (by kernel_rfl)) (by unfold Func.isWrapper; first | (rw [if_pos (by decide +kernel)]; kernel_rfl) | (rw [if_neg (by decide +kernel)]; exact ⟨rfl, rfl⟩))
    (fun os started H enc _ => lifted os started H enc)
end aesByHandP
end Go.Proofs.Ytjmbafnnofflnaa
