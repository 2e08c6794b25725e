/- The document's cipher: what New makes, what its Block and Block compute. -/
import Derived.Test.YtjlpppnpdgenfaaMvb10
namespace Aes
open Go.Rw
def cipher (key : List UInt8) : List UInt8 := keys key ++ boxTab
theorem cipher_length (key) : (cipher key).length = 432 := by rw [cipher, List.length_append, keys_length, boxTab_length]
theorem cipher_box (key : List UInt8) (b : UInt8) : nth (cipher key) (176 + n8 b) = box b := by
 rw [cipher, nth_append, keys_length, if_neg (by omega), show 176 + n8 b - 176 = n8 b by omega]; rfl
theorem cipher_part (key : List UInt8) (hk : key.length = 16) (n : Nat) (hn : n ≤ 10) : ((cipher key).take (n * 16 + 16)).drop (n * 16) = rowKey key n := by
 rw [cipher, List.take_append_of_le_length (by rw [keys_length]; omega), keys_part key hk n hn]
def handR (key inp : List UInt8) (n : Nat) : List UInt8 := if n < 10 then stateAt key inp n else block key inp
theorem handR_length (key inp n) : (handR key inp n).length = 16 := by unfold handR; split; exact stateAt_length ..; exact block_length ..
theorem handR_mid (key inp) (n : Nat) (h : n < 9) : add (mixed (boxed (handR key inp n))) (rowKey key (n + 1)) = handR key inp (n + 1) := by
 unfold handR; rw [if_pos (by omega), if_pos (by omega)]; rfl
theorem handR_end (key inp) : add (boxed (handR key inp 9)) (rowKey key (9 + 1)) = handR key inp (9 + 1) := rfl
theorem boxedF_ref (s : List UInt8) (i : Nat) : boxedF s i = box (nth s ((i + 4 * (i % 4)) % 16)) := by
 unfold boxedF; rw [Nat.mul_comm 4]
theorem mixed_four (Q : List UInt8) (q : Nat) (hq : q < 4) :
  ((((upto (mixedF Q) Q 16 (4 * q)).set (4 * q) (double (nth Q (4 * q)) ^^^ double (nth Q (4 * q + 1)) ^^^ nth Q (4 * q + 1) ^^^ nth Q (4 * q + 2) ^^^ nth Q (4 * q + 3))).set (4 * q + 1)
   (nth Q (4 * q) ^^^ double (nth Q (4 * q + 1)) ^^^ double (nth Q (4 * q + 2)) ^^^ nth Q (4 * q + 2) ^^^ nth Q (4 * q + 3))).set (4 * q + 2)
   (nth Q (4 * q) ^^^ nth Q (4 * q + 1) ^^^ double (nth Q (4 * q + 2)) ^^^ double (nth Q (4 * q + 3)) ^^^ nth Q (4 * q + 3))).set (4 * q + 3)
   (double (nth Q (4 * q)) ^^^ nth Q (4 * q) ^^^ nth Q (4 * q + 1) ^^^ nth Q (4 * q + 2) ^^^ double (nth Q (4 * q + 3))) = upto (mixedF Q) Q 16 (4 * (q + 1)) := by
 have e (r : Nat) (hr : r < 4) : mixedF Q (4 * q + r) = double (nth Q (4 * q + r)) ^^^ double (nth Q (4 * q + (r + 1) % 4)) ^^^ nth Q (4 * q + (r + 1) % 4) ^^^ nth Q (4 * q + (r + 2) % 4) ^^^ nth Q (4 * q + (r + 3) % 4) := by
  unfold mixedF
  rw [show (4 * q + r) / 4 * 4 = 4 * q by omega, show (4 * q + r) % 4 = r by omega, show (4 * q + r + 1) % 4 = (r + 1) % 4 by omega, show (4 * q + r + 2) % 4 = (r + 2) % 4 by omega, show (4 * q + r + 3) % 4 = (r + 3) % 4 by omega]
 have e0 : mixedF Q (4 * q) = double (nth Q (4 * q)) ^^^ double (nth Q (4 * q + 1)) ^^^ nth Q (4 * q + 1) ^^^ nth Q (4 * q + 2) ^^^ nth Q (4 * q + 3) := e 0 (by omega)
 have e1 : mixedF Q (4 * q + 1) = nth Q (4 * q) ^^^ double (nth Q (4 * q + 1)) ^^^ double (nth Q (4 * q + 2)) ^^^ nth Q (4 * q + 2) ^^^ nth Q (4 * q + 3) := by
  rw [e 1 (by omega)]; show double (nth Q (4 * q + 1)) ^^^ double (nth Q (4 * q + 2)) ^^^ nth Q (4 * q + 2) ^^^ nth Q (4 * q + 3) ^^^ nth Q (4 * q) = _; ac_rfl
 have e2 : mixedF Q (4 * q + 2) = nth Q (4 * q) ^^^ nth Q (4 * q + 1) ^^^ double (nth Q (4 * q + 2)) ^^^ double (nth Q (4 * q + 3)) ^^^ nth Q (4 * q + 3) := by
  rw [e 2 (by omega)]; show double (nth Q (4 * q + 2)) ^^^ double (nth Q (4 * q + 3)) ^^^ nth Q (4 * q + 3) ^^^ nth Q (4 * q) ^^^ nth Q (4 * q + 1) = _; ac_rfl
 have e3 : mixedF Q (4 * q + 3) = double (nth Q (4 * q)) ^^^ nth Q (4 * q) ^^^ nth Q (4 * q + 1) ^^^ nth Q (4 * q + 2) ^^^ double (nth Q (4 * q + 3)) := by
  rw [e 3 (by omega)]; show double (nth Q (4 * q + 3)) ^^^ double (nth Q (4 * q)) ^^^ nth Q (4 * q) ^^^ nth Q (4 * q + 1) ^^^ nth Q (4 * q + 2) = _; ac_rfl
 rw [← e0, ← e1, ← e2, ← e3, upto_set _ _ _ _ (by omega), upto_set _ _ _ _ (by omega), upto_set _ _ _ _ (by omega), upto_set _ _ _ _ (by omega)]
 congr 1
end Aes
namespace Go.Proofs.Ytjlpppnpdgenfaa
open Go.RowKit Go.Rw Aes
attribute [local go_sem ↓] ld16 st16 al16 ld176 st176 al176 ld256 st256 al256 ld4 st4 al4 shift_shl8 shift_shr8 bvs_getElem?
attribute [local go_sem] rst16p rld16p rld16 rst16 ral16 rld176 rst176 ral176 rld256 rst256 ral256 rld4 rst4 ral4 setRow_alloc_at setRow_alloc_past setRow_drew bvs_setn cipher_length
set_option maxRecDepth 100000 in
set_option maxHeartbeats 2000000 in
theorem rcblock_any (key inp : List UInt8) (hk : key.length = 16) (hi : inp.length = 16) (B : Nat) (w : World) (hB : row? w B = some (bvs (cipher key))) :
  Calls Try.prog 78 #[.pointer (some ⟨B, 0, none⟩), .agg (bvs inp)] w fun e w' => e = .returned (.agg (bvs (block key inp))) ∧ Below w.heap.size w w' := by
 have hBl := row?_lt hB
 have bx := cipher_box key
 have hp : (loadAgg 22 (.pointer (some ⟨B, 0, none⟩))).run Try.prog ((w.alloc (.cells (bvs inp) 22)).alloc (.cells (bvs (zeros 16)) 22)).drew = .ok (.agg (bvs (rowKey key 0))) ((w.alloc (.cells (bvs inp) 22)).alloc (.cells (bvs (zeros 16)) 22)).drew := by
  unfold loadAgg
  rw [run_loadAt_part Ag16 (c := bvs (cipher key)) (o := 0) (by rw [row?_drew, row?_alloc_past _ _ _ (by first | omega | (simp; done) | (simp; omega)), row?_alloc_past _ _ _ (by first | omega | (simp; done) | (simp; omega))]; exact hB) (by rw [bvs_size, cipher_length]; omega), bvs_extract]
  exact congrArg (fun l => Result.ok (Value.agg (bvs l)) _) (cipher_part key hk 0 (by omega))
 go_enter Try.func78, Try.ntmps78
 go_wp2_with fail
 refine Rg.wp_region_plan (Rg.rowFork [(0, 0), (1, 3), (2, 3), (3, 3), (4, 3), (5, 0)] 6 [(7, 1)] 7 [(6, 1)] [8]) [8] (by kernel_rfl) (by kernel_rfl) ?_
 simp only [Rg.row, Rg.rowFork, Rg.PT.map, List.map_cons, List.map_nil, List.getD_cons_zero, List.getD_cons_succ]
 go_wp2_with (first
  |(with_reducible refine Rg.plan_pure ?_ ?_ ?_); kernel_rfl; kernel_rfl; intro _ _|(with_reducible refine Rg.plan_take ?_ ?_ ?_); kernel_rfl; kernel_rfl; intro _ _|(with_reducible refine Rg.plan_keep ?_ ?_); kernel_rfl; intro K hK|refine hK _ _ (Rg.Keep.refl _) ?_; clear hK|refine hK _ _ (Rg.Keep.of_below (by assumption)) ?_; clear hK|(with_reducible refine Rg.plan_skip ?_ ?_); kernel_rfl|(with_reducible refine Rg.plan_done ?_)|(with_reducible refine Rg.calm_normal ?_))
 refine Rg.plan_fork (by kernel_rfl) (by kernel_rfl) ?_ ?_
 ·intro K hK
  go_wp2_with (first
   |(with_reducible refine Rg.plan_pure ?_ ?_ ?_); kernel_rfl; kernel_rfl; intro _ _|(with_reducible refine Rg.plan_take ?_ ?_ ?_); kernel_rfl; kernel_rfl; intro _ _|(with_reducible refine Rg.plan_keep ?_ ?_); kernel_rfl; intro K hK|refine hK _ _ (Rg.Keep.refl _) ?_; clear hK|refine hK _ _ (Rg.Keep.of_below (by assumption)) ?_; clear hK|(with_reducible refine Rg.plan_skip ?_ ?_); kernel_rfl|(with_reducible refine Rg.plan_done ?_)|(with_reducible refine Rg.calm_normal ?_))
  refine (cross_any _ _ hi (rowKey_length key hk 0) _).mono ?_
  rintro e w1 ⟨rfl, hA⟩
  refine hK _ _ (Rg.Keep.of_below hA) ?_
  clear hK
  have zA := hA.size
  simp at zA
  have A1 : row? w1 (w.heap.size + 1) = some (bvs (zeros 16)) := by rw [row?_below hA (by first | omega | (simp; done) | (simp; omega))]; simp [go_sem]
  have AB : row? w1 B = some (bvs (cipher key)) := by rw [row?_below hA (by first | omega | (simp; done) | (simp; omega)), row?_drew, row?_alloc_past _ _ _ (by first | omega | (simp; done) | (simp; omega)), row?_alloc_past _ _ _ (by first | omega | (simp; done) | (simp; omega))]; exact hB
  have Ab : Below w.heap.size w w1 := (bel2a _ _ _).drew.trans (hA.mono (by first | omega | (simp; done) | (simp; omega)))
  clear hA
  go_wp2_with (first
   |(with_reducible refine Rg.plan_pure ?_ ?_ ?_); kernel_rfl; kernel_rfl; intro _ _|(with_reducible refine Rg.plan_take ?_ ?_ ?_); kernel_rfl; kernel_rfl; intro _ _|(with_reducible refine Rg.plan_keep ?_ ?_); kernel_rfl; intro K hK|refine hK _ _ (Rg.Keep.refl _) ?_; clear hK|refine hK _ _ (Rg.Keep.of_below (by assumption)) ?_; clear hK|(with_reducible refine Rg.plan_skip ?_ ?_); kernel_rfl|(with_reducible refine Rg.plan_done ?_)|(with_reducible refine Rg.calm_normal ?_))
  refine hK _ _ (Rg.Keep.of_below ((Below.refl _ _).alloc (Nat.le_refl _) _)) ?_
  clear hK
  go_wp2_with (first
   |(with_reducible refine Rg.plan_pure ?_ ?_ ?_); kernel_rfl; kernel_rfl; intro _ _|(with_reducible refine Rg.plan_take ?_ ?_ ?_); kernel_rfl; kernel_rfl; intro _ _|(with_reducible refine Rg.plan_keep ?_ ?_); kernel_rfl; intro K hK|refine hK _ _ (Rg.Keep.refl _) ?_; clear hK|refine hK _ _ (Rg.Keep.of_below (by assumption)) ?_; clear hK|(with_reducible refine Rg.plan_skip ?_ ?_); kernel_rfl|(with_reducible refine Rg.plan_done ?_)|(with_reducible refine Rg.calm_normal ?_))
  go_loopw [6] (fun v wr => ∃ n : Nat, n ≤ 10 ∧ v = .int .i64 (n + 1 : Nat) ∧ row? wr (w.heap.size + 1) = some (bvs (zeros 16)) ∧ row? wr B = some (bvs (cipher key)) ∧ row? wr w1.heap.size = some (bvs (handR key inp n)) ∧ w1.heap.size < wr.heap.size ∧ Below w.heap.size w wr) (fun v _ => 16 - (intOf v).toNat)
  case atStart =>
   refine ⟨0, by omega, rfl, ?_, ?_, ?_, ?_, ?_⟩
   ·rw [row?_alloc_past _ _ _ (by first | omega | (simp; done) | (simp; omega))]; exact A1
   ·rw [row?_alloc_past _ _ _ (by first | omega | (simp; done) | (simp; omega))]; exact AB
   ·rw [row?_alloc_at _ _ _ _ (by first | omega | (simp; done) | (simp; omega))]; rfl
   ·simp
   ·exact Ab.alloc (by first | omega | (simp; done) | (simp; omega)) _
  case round =>
   obtain ⟨n, hn, rfl, h1, hB', hS, hSl, hb⟩ := hrel
   clear A1 AB Ab
   obtain ⟨wo, rfl⟩ : ∃ wo : World, wo = wr := ⟨_, rfl⟩
   have hh := handR_length key inp n
   by_cases hlt : n < 10
   ·have I1 := Lib.hid h1
    have IB := Lib.hid hB'
    have IS := Lib.hid hS
    clear h1 hB' hS
    go_wp2_with fail
    push_cast
    rw [show decide ((n : Int) + 1 < 11) = true from decide_eq_true (by omega)]
    go_loopw [8] (fun v wi => ∃ i : Nat, i ≤ 16 ∧ v = .int .i64 i ∧ row? wi (w.heap.size + 1) = some (bvs (zeros 16)) ∧ row? wi B = some (bvs (cipher key)) ∧ row? wi w1.heap.size = some (bvs (handR key inp n)) ∧ row? wi wo.heap.size = some (bvs (upto (boxedF (handR key inp n)) (zeros 16) 16 i)) ∧ Below w.heap.size w wi) (fun v _ => 16 - (intOf v).toNat)
    case atStart =>
     refine ⟨0, by omega, rfl, ?_, ?_, ?_, ?_, hb.alloc (by first | omega | (simp; done) | (simp; omega)) _⟩
     ·rw [row?_alloc_past _ _ _ (by first | omega | (simp; done) | (simp; omega))]; exact I1.out
     ·rw [row?_alloc_past _ _ _ (by first | omega | (simp; done) | (simp; omega))]; exact IB.out
     ·rw [row?_alloc_past _ _ _ (by first | omega | (simp; done) | (simp; omega))]; exact IS.out
     ·rw [upto_zero _ _ _ (zeros_length _), row?_alloc_at _ _ _ _ (by first | omega | (simp; done) | (simp; omega))]
    case round =>
     obtain ⟨i, hi, rfl, h1, hB', hS, hT, hb⟩ := hrel
     clear I1 IB IS
     have I1 := Lib.hid h1
     have IB := Lib.hid hB'
     have IS := Lib.hid hS
     have IT := Lib.hid hT
     by_cases h16 : i < 16
     ·have g := upto_set (boxedF (handR key inp n)) (zeros 16) 16 i h16
      rw [boxedF_ref] at g
      have G := Lib.hid g; clear g
      have hx := n8_lt (nth (handR key inp n) ((i + 4 * (i % 4)) % 16))
      have cS := row?_cell hS
      have cB := row?_cell hB'
      have cT := row?_cell hT
      have fT := row?_frozen hT
      clear h1 hB' hS hT
      go_wp2_with fail
      refine Rg.wp_region_plan (Rg.row [(0, 3), (1, 3), (2, 3), (3, 3), (4, 3), (5, 3), (6, 3), (7, 3), (8, 3), (9, 0), (10, 3), (11, 3), (12, 3), (13, 0), (14, 3)] [15]) [15] (by kernel_rfl) (by kernel_rfl) ?_
      simp only [Rg.row, Rg.PT.map, List.map_cons, List.map_nil, List.getD_cons_zero, List.getD_cons_succ]
      go_wp2_with (first
       |(with_reducible refine Rg.plan_pure ?_ ?_ ?_); kernel_rfl; kernel_rfl; intro _ _|(with_reducible refine Rg.plan_take ?_ ?_ ?_); kernel_rfl; kernel_rfl; intro _ _|(with_reducible refine Rg.plan_keep ?_ ?_); kernel_rfl; intro K hK|refine hK _ _ (Rg.Keep.refl _) ?_; clear hK|refine hK _ _ (Rg.Keep.of_below (by assumption)) ?_; clear hK|(with_reducible refine Rg.plan_skip ?_ ?_); kernel_rfl|(with_reducible refine Rg.plan_done ?_)|(with_reducible refine Rg.calm_normal ?_))
      go_roundw
      case rel =>
       refine ⟨i + 1, by omega, by go_num, ?_, ?_, ?_, ?_, (hb.setCell (by first | omega | (simp; done) | (simp; omega)) _).drew⟩
       ·rw [row?_drew, row?_setCell_ne _ _ _ _ (by first | omega | (simp; done) | (simp; omega))]; exact I1.out
       ·rw [row?_drew, row?_setCell_ne _ _ _ _ (by first | omega | (simp; done) | (simp; omega))]; exact IB.out
       ·rw [row?_drew, row?_setCell_ne _ _ _ _ (by first | omega | (simp; done) | (simp; omega))]; exact IS.out
       ·rw [row?_drew, row?_setCell_eq IT.out, bvs_setn]; exact congrArg (fun l => some (bvs l)) G.out
      case measure => simp [intOf]; omega
     ·obtain rfl : i = 16 := by omega
      rw [upto_full] at hT
      replace hT : row? wr wo.heap.size = some (bvs (boxed (handR key inp n))) := hT
      have lQ := boxed_length (handR key inp n)
      clear IT
      by_cases h9 : n < 9
      ·have hE : add (mixed (boxed (handR key inp n))) (rowKey key (n + 1)) = handR key inp (n + 1) := handR_mid key inp n h9
       generalize boxed (handR key inp n) = Q at hT lQ hE
       have IT := Lib.hid hT
       have HE := Lib.hid hE
       clear h1 hB' hS hT hE
       go_wp2_with fail
       push_cast
       rw [show decide ((n : Int) + 1 < 10) = true from decide_eq_true (by omega)]
       go_loopw [9] (fun v wi => ∃ q : Nat, q ≤ 4 ∧ v = .int .i64 (4 * q : Nat) ∧ row? wi (w.heap.size + 1) = some (bvs (zeros 16)) ∧ row? wi B = some (bvs (cipher key)) ∧ row? wi w1.heap.size = some (bvs (handR key inp n)) ∧ row? wi wo.heap.size = some (bvs (upto (mixedF Q) Q 16 (4 * q))) ∧ Below w.heap.size w wi) (fun v _ => 16 - (intOf v).toNat)
       case atStart => exact ⟨0, by omega, rfl, I1.out, IB.out, IS.out, by rw [upto_zero _ _ _ lQ]; exact IT.out, hb⟩
       case round =>
        obtain ⟨q, hq, rfl, h1, hB', hS, hT, hb⟩ := hrel
        clear I1 IB IS IT
        have I1 := Lib.hid h1
        have IB := Lib.hid hB'
        have IS := Lib.hid hS
        have IT := Lib.hid hT
        by_cases h4 : q < 4
        ·have u0 : nth (upto (mixedF Q) Q 16 (4 * q)) (4 * q) = nth Q (4 * q) := upto_hi (by omega) (by omega)
         have u1 : nth (upto (mixedF Q) Q 16 (4 * q)) (4 * q + 1) = nth Q (4 * q + 1) := upto_hi (by omega) (by omega)
         have u2 : nth (upto (mixedF Q) Q 16 (4 * q)) (4 * q + 2) = nth Q (4 * q + 2) := upto_hi (by omega) (by omega)
         have u3 : nth (upto (mixedF Q) Q 16 (4 * q)) (4 * q + 3) = nth Q (4 * q + 3) := upto_hi (by omega) (by omega)
         have G := Lib.hid (mixed_four Q q h4)
         have cT := row?_cell hT
         have fT := row?_frozen hT
         clear h1 hB' hS hT
         go_wp2_with fail
         refine Rg.wp_region_plan (Rg.row [(0, 3), (1, 3), (2, 0), (3, 3), (4, 3), (5, 3), (6, 0), (7, 3), (8, 3), (9, 3), (10, 0), (11, 3), (12, 3), (13, 3), (14, 0), (15, 3), (16, 3), (17, 3), (18, 3)] []) [] (by kernel_rfl) (by kernel_rfl) ?_
         simp only [Rg.row, Rg.PT.map, List.map_nil, List.getD_cons_zero, List.getD_cons_succ]
         go_wp2_with (first
          |(with_reducible refine Rg.plan_pure ?_ ?_ ?_); kernel_rfl; kernel_rfl; intro _ _|(with_reducible refine Rg.plan_take ?_ ?_ ?_); kernel_rfl; kernel_rfl; intro _ _|(with_reducible refine Rg.plan_keep ?_ ?_); kernel_rfl; intro K hK|refine hK _ _ (Rg.Keep.refl _) ?_; clear hK|refine hK _ _ (Rg.Keep.of_below (by assumption)) ?_; clear hK|(with_reducible refine Rg.plan_skip ?_ ?_); kernel_rfl|(with_reducible refine Rg.plan_done ?_)|(with_reducible refine Rg.calm_normal ?_))
         refine Rg.wp_region_plan (Rg.row [(0, 3), (1, 3), (2, 3), (3, 3), (4, 3), (5, 3), (6, 3), (7, 3), (9, 3), (12, 3), (14, 3), (16, 3), (18, 3), (19, 3), (22, 3), (25, 3), (27, 3), (29, 3), (30, 3), (31, 3), (32, 3), (35, 3), (38, 3), (40, 3), (42, 3), (44, 3), (46, 3), (48, 3), (8, 1), (10, 1), (11, 3), (13, 3), (15, 3), (17, 3), (51, 3), (20, 1), (21, 3), (23, 1), (24, 3), (26, 3), (28, 3), (33, 1), (34, 3), (36, 1), (37, 3), (39, 3), (41, 1), (43, 3), (45, 3), (47, 3), (49, 1), (50, 3)] [52, 53, 54, 55, 56, 57, 58]) [52, 53, 54, 55, 56, 57, 58] (by kernel_rfl) (by kernel_rfl) ?_
         simp only [Rg.row, Rg.PT.map, List.map_cons, List.map_nil, List.getD_cons_zero, List.getD_cons_succ]
         go_wp2_with (first
          | (go_at_call 89; refine (rdouble_any _ _).mono ?_; rintro e w' ⟨rfl, rfl⟩)
          |(with_reducible refine Rg.plan_pure ?_ ?_ ?_); kernel_rfl; kernel_rfl; intro _ _|(with_reducible refine Rg.plan_take ?_ ?_ ?_); kernel_rfl; kernel_rfl; intro _ _|(with_reducible refine Rg.plan_keep ?_ ?_); kernel_rfl; intro K hK|refine hK _ _ (Rg.Keep.refl _) ?_; clear hK|refine hK _ _ (Rg.Keep.of_below (by assumption)) ?_; clear hK|(with_reducible refine Rg.plan_skip ?_ ?_); kernel_rfl|(with_reducible refine Rg.plan_done ?_)|(with_reducible refine Rg.calm_normal ?_))
         go_roundw
         case rel =>
          refine ⟨q + 1, by omega, by go_num, ?_, ?_, ?_, ?_, ?_⟩
          ·simp only [row?_drew]; rw [row?_setCell_ne _ _ _ _ (by first | omega | (simp; done) | (simp; omega)), row?_setCell_ne _ _ _ _ (by first | omega | (simp; done) | (simp; omega)), row?_setCell_ne _ _ _ _ (by first | omega | (simp; done) | (simp; omega)), row?_setCell_ne _ _ _ _ (by first | omega | (simp; done) | (simp; omega))]; exact I1.out
          ·simp only [row?_drew]; rw [row?_setCell_ne _ _ _ _ (by first | omega | (simp; done) | (simp; omega)), row?_setCell_ne _ _ _ _ (by first | omega | (simp; done) | (simp; omega)), row?_setCell_ne _ _ _ _ (by first | omega | (simp; done) | (simp; omega)), row?_setCell_ne _ _ _ _ (by first | omega | (simp; done) | (simp; omega))]; exact IB.out
          ·simp only [row?_drew]; rw [row?_setCell_ne _ _ _ _ (by first | omega | (simp; done) | (simp; omega)), row?_setCell_ne _ _ _ _ (by first | omega | (simp; done) | (simp; omega)), row?_setCell_ne _ _ _ _ (by first | omega | (simp; done) | (simp; omega)), row?_setCell_ne _ _ _ _ (by first | omega | (simp; done) | (simp; omega))]; exact IS.out
          ·simp only [row?_drew]; rw [row?_setCell_eq (row?_setCell_eq (row?_setCell_eq (row?_setCell_eq IT.out _) _) _), bvs_setn, bvs_setn, bvs_setn, bvs_setn]; exact congrArg (fun l => some (bvs l)) G.out
          ·first
           | exact ((((hb.setCell (by first | omega | (simp; done) | (simp; omega)) _).setCell (by first | omega | (simp; done) | (simp; omega)) _).setCell (by first | omega | (simp; done) | (simp; omega)) _).setCell (by first | omega | (simp; done) | (simp; omega)) _).drew.drew
           | exact ((((hb.setCell (by first | omega | (simp; done) | (simp; omega)) _).setCell (by first | omega | (simp; done) | (simp; omega)) _).setCell (by first | omega | (simp; done) | (simp; omega)) _).setCell (by first | omega | (simp; done) | (simp; omega)) _).drew
         case measure => simp [intOf]; omega
        ·obtain rfl : q = 4 := by omega
         rw [show 4 * 4 = 16 by omega, upto_full] at hT
         replace hT : row? wr wo.heap.size = some (bvs (mixed Q)) := hT
         have lT := mixed_length Q
         generalize mixed Q = T at hT lT HE
         clear I1 IB IS IT
         have qB := row?_lt hB'
         have hp : (loadAgg 22 (.pointer (some ⟨B, (n + 1) * 16, none⟩))).run Try.prog wr.drew = .ok (.agg (bvs (rowKey key (n + 1)))) wr.drew := by
          unfold loadAgg
          rw [run_loadAt_part (w := wr.drew) Ag16 (c := bvs (cipher key)) (o := (n + 1) * 16) hB' (by rw [bvs_size, cipher_length]; omega), bvs_extract, cipher_part key hk (n + 1) (by omega)]
         go_wp2_with fail
         refine Rg.wp_region_plan (Rg.row [(0, 0), (1, 3), (2, 3), (3, 3), (4, 3), (5, 3), (6, 0), (7, 1)] [8]) [8] (by kernel_rfl) (by kernel_rfl) ?_
         simp only [Rg.row, Rg.PT.map, List.map_cons, List.map_nil, List.getD_cons_zero, List.getD_cons_succ]
         go_wp2_with (first
          |(with_reducible refine Rg.plan_pure ?_ ?_ ?_); kernel_rfl; kernel_rfl; intro _ _|(with_reducible refine Rg.plan_take ?_ ?_ ?_); kernel_rfl; kernel_rfl; intro _ _|(with_reducible refine Rg.plan_keep ?_ ?_); kernel_rfl; intro K hK|refine hK _ _ (Rg.Keep.refl _) ?_; clear hK|refine hK _ _ (Rg.Keep.of_below (by assumption)) ?_; clear hK|(with_reducible refine Rg.plan_skip ?_ ?_); kernel_rfl|(with_reducible refine Rg.plan_done ?_)|(with_reducible refine Rg.calm_normal ?_))
         refine (cross_any _ _ lT (rowKey_length key hk (n + 1)) _).mono ?_
         rintro e wC ⟨rfl, hC⟩
         refine hK _ _ (Rg.Keep.of_below hC) ?_
         clear hK
         have qS := row?_lt hS
         have hAC : Below wr.heap.size wr wC := (Below.drew (Below.refl _ wr)).trans hC
         have g1 : row? wC (w.heap.size + 1) = some (bvs (zeros 16)) := by rw [row?_below hAC (by omega)]; exact h1
         have gB : row? wC B = some (bvs (cipher key)) := by rw [row?_below hAC (by omega)]; exact hB'
         have gS : row? wC w1.heap.size = some (bvs (handR key inp n)) := by rw [row?_below hAC (by omega)]; exact hS
         have gb : Below w.heap.size w wC := hb.trans (hAC.mono (by omega))
         have zC := hAC.size
         clear h1 hB' hS hb hC hAC hp
         go_wp2_with (first
          |(with_reducible refine Rg.plan_pure ?_ ?_ ?_); kernel_rfl; kernel_rfl; intro _ _|(with_reducible refine Rg.plan_take ?_ ?_ ?_); kernel_rfl; kernel_rfl; intro _ _|(with_reducible refine Rg.plan_keep ?_ ?_); kernel_rfl; intro K hK|refine hK _ _ (Rg.Keep.refl _) ?_; clear hK|refine hK _ _ (Rg.Keep.of_below (by assumption)) ?_; clear hK|(with_reducible refine Rg.plan_skip ?_ ?_); kernel_rfl|(with_reducible refine Rg.plan_done ?_)|(with_reducible refine Rg.calm_normal ?_))
         go_roundw
         case rel =>
          refine ⟨n + 1, by omega, by go_num, ?_, ?_, ?_, ?_, below_setRow gb (by first | omega | (simp; done) | (simp; omega)) _⟩
          ·rw [row?_setRow_ne _ _ _ _ (by first | omega | (simp; done) | (simp; omega))]; exact g1
          ·rw [row?_setRow_ne _ _ _ _ (by first | omega | (simp; done) | (simp; omega))]; exact gB
          ·rw [row?_setRow_eq gS, HE.out]
          ·exact row?_lt (row?_setRow_eq gS)
         case measure => simp [intOf]; omega
      ·obtain rfl : n = 9 := by omega
       have hE : add (boxed (handR key inp 9)) (rowKey key (9 + 1)) = handR key inp (9 + 1) := handR_end key inp
       generalize boxed (handR key inp 9) = T at hT lQ hE
       have HE := Lib.hid hE; clear hE
       have lT := lQ
       clear I1 IB IS
       have qB := row?_lt hB'
       have hp : (loadAgg 22 (.pointer (some ⟨B, 160, none⟩))).run Try.prog wr.drew = .ok (.agg (bvs (rowKey key 10))) wr.drew := by
        unfold loadAgg
        rw [run_loadAt_part (w := wr.drew) Ag16 (c := bvs (cipher key)) (o := 160) hB' (by rw [bvs_size, cipher_length]; omega), bvs_extract, cipher_part key hk 10 (by omega)]
       go_wp2_with fail
       refine Rg.wp_region_plan (Rg.row [(0, 0), (1, 3), (2, 3), (3, 3), (4, 3), (5, 3), (6, 0), (7, 1)] [8]) [8] (by kernel_rfl) (by kernel_rfl) ?_
       simp only [Rg.row, Rg.PT.map, List.map_cons, List.map_nil, List.getD_cons_zero, List.getD_cons_succ]
       go_wp2_with (first
        |(with_reducible refine Rg.plan_pure ?_ ?_ ?_); kernel_rfl; kernel_rfl; intro _ _|(with_reducible refine Rg.plan_take ?_ ?_ ?_); kernel_rfl; kernel_rfl; intro _ _|(with_reducible refine Rg.plan_keep ?_ ?_); kernel_rfl; intro K hK|refine hK _ _ (Rg.Keep.refl _) ?_; clear hK|refine hK _ _ (Rg.Keep.of_below (by assumption)) ?_; clear hK|(with_reducible refine Rg.plan_skip ?_ ?_); kernel_rfl|(with_reducible refine Rg.plan_done ?_)|(with_reducible refine Rg.calm_normal ?_))
       refine (cross_any _ _ lT (rowKey_length key hk 10) _).mono ?_
       rintro e wC ⟨rfl, hC⟩
       refine hK _ _ (Rg.Keep.of_below hC) ?_
       clear hK
       have qS := row?_lt hS
       have hAC : Below wr.heap.size wr wC := (Below.drew (Below.refl _ wr)).trans hC
       have g1 : row? wC (w.heap.size + 1) = some (bvs (zeros 16)) := by rw [row?_below hAC (by omega)]; exact h1
       have gB : row? wC B = some (bvs (cipher key)) := by rw [row?_below hAC (by omega)]; exact hB'
       have gS : row? wC w1.heap.size = some (bvs (handR key inp 9)) := by rw [row?_below hAC (by omega)]; exact hS
       have gb : Below w.heap.size w wC := hb.trans (hAC.mono (by omega))
       have zC := hAC.size
       clear h1 hB' hS hb hC hAC hp
       go_wp2_with (first
        |(with_reducible refine Rg.plan_pure ?_ ?_ ?_); kernel_rfl; kernel_rfl; intro _ _|(with_reducible refine Rg.plan_take ?_ ?_ ?_); kernel_rfl; kernel_rfl; intro _ _|(with_reducible refine Rg.plan_keep ?_ ?_); kernel_rfl; intro K hK|refine hK _ _ (Rg.Keep.refl _) ?_; clear hK|refine hK _ _ (Rg.Keep.of_below (by assumption)) ?_; clear hK|(with_reducible refine Rg.plan_skip ?_ ?_); kernel_rfl|(with_reducible refine Rg.plan_done ?_)|(with_reducible refine Rg.calm_normal ?_))
       go_roundw
       case rel =>
        refine ⟨9 + 1, by omega, rfl, ?_, ?_, ?_, ?_, below_setRow gb (by first | omega | (simp; done) | (simp; omega)) _⟩
        ·rw [row?_setRow_ne _ _ _ _ (by first | omega | (simp; done) | (simp; omega))]; exact g1
        ·rw [row?_setRow_ne _ _ _ _ (by first | omega | (simp; done) | (simp; omega))]; exact gB
        ·rw [row?_setRow_eq gS, HE.out]
        ·exact row?_lt (row?_setRow_eq gS)
       case measure => simp [intOf]
   ·obtain rfl : n = 10 := by omega
    replace hS : row? wo w1.heap.size = some (bvs (block key inp)) := hS
    have hbl := block_length key inp
    go_wp2_with fail
    exact ret16 (w.heap.size + 1) (bvs (block key inp)) rfl rfl rfl (row?_setRow_eq h1) (by rw [bvs_size]; exact block_length _ _) ⟨rfl, below_setRow hb (by omega) _⟩
 ·intro K hK
  go_wp2_with (first
   |(with_reducible refine Rg.plan_pure ?_ ?_ ?_); kernel_rfl; kernel_rfl; intro _ _|(with_reducible refine Rg.plan_take ?_ ?_ ?_); kernel_rfl; kernel_rfl; intro _ _|(with_reducible refine Rg.plan_keep ?_ ?_); kernel_rfl; intro K hK|refine hK _ _ (Rg.Keep.refl _) ?_; clear hK|refine hK _ _ (Rg.Keep.of_below (by assumption)) ?_; clear hK|(with_reducible refine Rg.plan_skip ?_ ?_); kernel_rfl|(with_reducible refine Rg.plan_done ?_)|(with_reducible refine Rg.calm_normal ?_))
  refine hK _ _ (Rg.Keep.of_below ((Below.refl _ _).alloc (Nat.le_refl _) _)) ?_
  clear hK
  go_wp2_with (first
   |(with_reducible refine Rg.plan_pure ?_ ?_ ?_); kernel_rfl; kernel_rfl; intro _ _|(with_reducible refine Rg.plan_take ?_ ?_ ?_); kernel_rfl; kernel_rfl; intro _ _|(with_reducible refine Rg.plan_keep ?_ ?_); kernel_rfl; intro K hK|refine hK _ _ (Rg.Keep.refl _) ?_; clear hK|refine hK _ _ (Rg.Keep.of_below (by assumption)) ?_; clear hK|(with_reducible refine Rg.plan_skip ?_ ?_); kernel_rfl|(with_reducible refine Rg.plan_done ?_)|(with_reducible refine Rg.calm_normal ?_))
  refine (cross_any _ _ hi (rowKey_length key hk 0) _).mono ?_
  rintro e w1 ⟨rfl, hA⟩
  refine hK _ _ (Rg.Keep.of_below hA) ?_
  clear hK
  have zA := hA.size
  simp at zA
  have A1 : row? w1 (w.heap.size + 1) = some (bvs (zeros 16)) := by rw [row?_below hA (by first | omega | (simp; done) | (simp; omega))]; simp [go_sem]
  have AB : row? w1 B = some (bvs (cipher key)) := by rw [row?_below hA (by first | omega | (simp; done) | (simp; omega)), row?_drew, row?_alloc_past _ _ _ (by first | omega | (simp; done) | (simp; omega)), row?_alloc_past _ _ _ (by first | omega | (simp; done) | (simp; omega)), row?_alloc_past _ _ _ (by first | omega | (simp; done) | (simp; omega))]; exact hB
  have AS : row? w1 (w.heap.size + 1 + 1) = some (bvs (zeros 16)) := by rw [row?_below hA (by first | omega | (simp; done) | (simp; omega))]; simp [go_sem]
  have Ab : Below w.heap.size w w1 := ((bel2a _ _ _).alloc (by first | omega | (simp; done) | (simp; omega)) _).drew.trans (hA.mono (by first | omega | (simp; done) | (simp; omega)))
  clear hA
  go_wp2_with (first
   |(with_reducible refine Rg.plan_pure ?_ ?_ ?_); kernel_rfl; kernel_rfl; intro _ _|(with_reducible refine Rg.plan_take ?_ ?_ ?_); kernel_rfl; kernel_rfl; intro _ _|(with_reducible refine Rg.plan_keep ?_ ?_); kernel_rfl; intro K hK|refine hK _ _ (Rg.Keep.refl _) ?_; clear hK|refine hK _ _ (Rg.Keep.of_below (by assumption)) ?_; clear hK|(with_reducible refine Rg.plan_skip ?_ ?_); kernel_rfl|(with_reducible refine Rg.plan_done ?_)|(with_reducible refine Rg.calm_normal ?_))
  go_loopw [6] (fun v wr => ∃ n : Nat, n ≤ 10 ∧ v = .int .i64 (n + 1 : Nat) ∧ row? wr (w.heap.size + 1) = some (bvs (zeros 16)) ∧ row? wr B = some (bvs (cipher key)) ∧ row? wr (w.heap.size + 1 + 1) = some (bvs (handR key inp n)) ∧ (w.heap.size + 1 + 1) < wr.heap.size ∧ Below w.heap.size w wr) (fun v _ => 16 - (intOf v).toNat)
  case atStart =>
   refine ⟨0, by omega, rfl, ?_, ?_, ?_, ?_, ?_⟩
   ·rw [row?_setRow_ne _ _ _ _ (by first | omega | (simp; done) | (simp; omega))]; exact A1
   ·rw [row?_setRow_ne _ _ _ _ (by first | omega | (simp; done) | (simp; omega))]; exact AB
   ·rw [row?_setRow_eq AS]; rfl
   ·exact row?_lt (row?_setRow_eq AS)
   ·exact below_setRow Ab (by first | omega | (simp; done) | (simp; omega)) _
  case round =>
   obtain ⟨n, hn, rfl, h1, hB', hS, hSl, hb⟩ := hrel
   clear A1 AB Ab
   obtain ⟨wo, rfl⟩ : ∃ wo : World, wo = wr := ⟨_, rfl⟩
   have hh := handR_length key inp n
   by_cases hlt : n < 10
   ·have I1 := Lib.hid h1
    have IB := Lib.hid hB'
    have IS := Lib.hid hS
    clear h1 hB' hS
    go_wp2_with fail
    push_cast
    rw [show decide ((n : Int) + 1 < 11) = true from decide_eq_true (by omega)]
    go_loopw [8] (fun v wi => ∃ i : Nat, i ≤ 16 ∧ v = .int .i64 i ∧ row? wi (w.heap.size + 1) = some (bvs (zeros 16)) ∧ row? wi B = some (bvs (cipher key)) ∧ row? wi (w.heap.size + 1 + 1) = some (bvs (handR key inp n)) ∧ row? wi wo.heap.size = some (bvs (upto (boxedF (handR key inp n)) (zeros 16) 16 i)) ∧ Below w.heap.size w wi) (fun v _ => 16 - (intOf v).toNat)
    case atStart =>
     refine ⟨0, by omega, rfl, ?_, ?_, ?_, ?_, hb.alloc (by first | omega | (simp; done) | (simp; omega)) _⟩
     ·rw [row?_alloc_past _ _ _ (by first | omega | (simp; done) | (simp; omega))]; exact I1.out
     ·rw [row?_alloc_past _ _ _ (by first | omega | (simp; done) | (simp; omega))]; exact IB.out
     ·rw [row?_alloc_past _ _ _ (by first | omega | (simp; done) | (simp; omega))]; exact IS.out
     ·rw [upto_zero _ _ _ (zeros_length _), row?_alloc_at _ _ _ _ (by first | omega | (simp; done) | (simp; omega))]
    case round =>
     obtain ⟨i, hi, rfl, h1, hB', hS, hT, hb⟩ := hrel
     clear I1 IB IS
     have I1 := Lib.hid h1
     have IB := Lib.hid hB'
     have IS := Lib.hid hS
     have IT := Lib.hid hT
     by_cases h16 : i < 16
     ·have g := upto_set (boxedF (handR key inp n)) (zeros 16) 16 i h16
      rw [boxedF_ref] at g
      have G := Lib.hid g; clear g
      have hx := n8_lt (nth (handR key inp n) ((i + 4 * (i % 4)) % 16))
      have cS := row?_cell hS
      have cB := row?_cell hB'
      have cT := row?_cell hT
      have fT := row?_frozen hT
      clear h1 hB' hS hT
      go_wp2_with fail
      refine Rg.wp_region_plan (Rg.row [(0, 3), (1, 3), (2, 3), (3, 3), (4, 3), (5, 3), (6, 3), (7, 3), (8, 3), (9, 0), (10, 3), (11, 3), (12, 3), (13, 0), (14, 3)] [15]) [15] (by kernel_rfl) (by kernel_rfl) ?_
      simp only [Rg.row, Rg.PT.map, List.map_cons, List.map_nil, List.getD_cons_zero, List.getD_cons_succ]
      go_wp2_with (first
       |(with_reducible refine Rg.plan_pure ?_ ?_ ?_); kernel_rfl; kernel_rfl; intro _ _|(with_reducible refine Rg.plan_take ?_ ?_ ?_); kernel_rfl; kernel_rfl; intro _ _|(with_reducible refine Rg.plan_keep ?_ ?_); kernel_rfl; intro K hK|refine hK _ _ (Rg.Keep.refl _) ?_; clear hK|refine hK _ _ (Rg.Keep.of_below (by assumption)) ?_; clear hK|(with_reducible refine Rg.plan_skip ?_ ?_); kernel_rfl|(with_reducible refine Rg.plan_done ?_)|(with_reducible refine Rg.calm_normal ?_))
      go_roundw
      case rel =>
       refine ⟨i + 1, by omega, by go_num, ?_, ?_, ?_, ?_, (hb.setCell (by first | omega | (simp; done) | (simp; omega)) _).drew⟩
       ·rw [row?_drew, row?_setCell_ne _ _ _ _ (by first | omega | (simp; done) | (simp; omega))]; exact I1.out
       ·rw [row?_drew, row?_setCell_ne _ _ _ _ (by first | omega | (simp; done) | (simp; omega))]; exact IB.out
       ·rw [row?_drew, row?_setCell_ne _ _ _ _ (by first | omega | (simp; done) | (simp; omega))]; exact IS.out
       ·rw [row?_drew, row?_setCell_eq IT.out, bvs_setn]; exact congrArg (fun l => some (bvs l)) G.out
      case measure => simp [intOf]; omega
     ·obtain rfl : i = 16 := by omega
      rw [upto_full] at hT
      replace hT : row? wr wo.heap.size = some (bvs (boxed (handR key inp n))) := hT
      have lQ := boxed_length (handR key inp n)
      clear IT
      by_cases h9 : n < 9
      ·have hE : add (mixed (boxed (handR key inp n))) (rowKey key (n + 1)) = handR key inp (n + 1) := handR_mid key inp n h9
       generalize boxed (handR key inp n) = Q at hT lQ hE
       have IT := Lib.hid hT
       have HE := Lib.hid hE
       clear h1 hB' hS hT hE
       go_wp2_with fail
       push_cast
       rw [show decide ((n : Int) + 1 < 10) = true from decide_eq_true (by omega)]
       go_loopw [9] (fun v wi => ∃ q : Nat, q ≤ 4 ∧ v = .int .i64 (4 * q : Nat) ∧ row? wi (w.heap.size + 1) = some (bvs (zeros 16)) ∧ row? wi B = some (bvs (cipher key)) ∧ row? wi (w.heap.size + 1 + 1) = some (bvs (handR key inp n)) ∧ row? wi wo.heap.size = some (bvs (upto (mixedF Q) Q 16 (4 * q))) ∧ Below w.heap.size w wi) (fun v _ => 16 - (intOf v).toNat)
       case atStart => exact ⟨0, by omega, rfl, I1.out, IB.out, IS.out, by rw [upto_zero _ _ _ lQ]; exact IT.out, hb⟩
       case round =>
        obtain ⟨q, hq, rfl, h1, hB', hS, hT, hb⟩ := hrel
        clear I1 IB IS IT
        have I1 := Lib.hid h1
        have IB := Lib.hid hB'
        have IS := Lib.hid hS
        have IT := Lib.hid hT
        by_cases h4 : q < 4
        ·have u0 : nth (upto (mixedF Q) Q 16 (4 * q)) (4 * q) = nth Q (4 * q) := upto_hi (by omega) (by omega)
         have u1 : nth (upto (mixedF Q) Q 16 (4 * q)) (4 * q + 1) = nth Q (4 * q + 1) := upto_hi (by omega) (by omega)
         have u2 : nth (upto (mixedF Q) Q 16 (4 * q)) (4 * q + 2) = nth Q (4 * q + 2) := upto_hi (by omega) (by omega)
         have u3 : nth (upto (mixedF Q) Q 16 (4 * q)) (4 * q + 3) = nth Q (4 * q + 3) := upto_hi (by omega) (by omega)
         have G := Lib.hid (mixed_four Q q h4)
         have cT := row?_cell hT
         have fT := row?_frozen hT
         clear h1 hB' hS hT
         go_wp2_with fail
         refine Rg.wp_region_plan (Rg.row [(0, 3), (1, 3), (2, 0), (3, 3), (4, 3), (5, 3), (6, 0), (7, 3), (8, 3), (9, 3), (10, 0), (11, 3), (12, 3), (13, 3), (14, 0), (15, 3), (16, 3), (17, 3), (18, 3)] []) [] (by kernel_rfl) (by kernel_rfl) ?_
         simp only [Rg.row, Rg.PT.map, List.map_nil, List.getD_cons_zero, List.getD_cons_succ]
         go_wp2_with (first
          |(with_reducible refine Rg.plan_pure ?_ ?_ ?_); kernel_rfl; kernel_rfl; intro _ _|(with_reducible refine Rg.plan_take ?_ ?_ ?_); kernel_rfl; kernel_rfl; intro _ _|(with_reducible refine Rg.plan_keep ?_ ?_); kernel_rfl; intro K hK|refine hK _ _ (Rg.Keep.refl _) ?_; clear hK|refine hK _ _ (Rg.Keep.of_below (by assumption)) ?_; clear hK|(with_reducible refine Rg.plan_skip ?_ ?_); kernel_rfl|(with_reducible refine Rg.plan_done ?_)|(with_reducible refine Rg.calm_normal ?_))
         refine Rg.wp_region_plan (Rg.row [(0, 3), (1, 3), (2, 3), (3, 3), (4, 3), (5, 3), (6, 3), (7, 3), (9, 3), (12, 3), (14, 3), (16, 3), (18, 3), (19, 3), (22, 3), (25, 3), (27, 3), (29, 3), (30, 3), (31, 3), (32, 3), (35, 3), (38, 3), (40, 3), (42, 3), (44, 3), (46, 3), (48, 3), (8, 1), (10, 1), (11, 3), (13, 3), (15, 3), (17, 3), (51, 3), (20, 1), (21, 3), (23, 1), (24, 3), (26, 3), (28, 3), (33, 1), (34, 3), (36, 1), (37, 3), (39, 3), (41, 1), (43, 3), (45, 3), (47, 3), (49, 1), (50, 3)] [52, 53, 54, 55, 56, 57, 58]) [52, 53, 54, 55, 56, 57, 58] (by kernel_rfl) (by kernel_rfl) ?_
         simp only [Rg.row, Rg.PT.map, List.map_cons, List.map_nil, List.getD_cons_zero, List.getD_cons_succ]
         go_wp2_with (first
          | (go_at_call 89; refine (rdouble_any _ _).mono ?_; rintro e w' ⟨rfl, rfl⟩)
          |(with_reducible refine Rg.plan_pure ?_ ?_ ?_); kernel_rfl; kernel_rfl; intro _ _|(with_reducible refine Rg.plan_take ?_ ?_ ?_); kernel_rfl; kernel_rfl; intro _ _|(with_reducible refine Rg.plan_keep ?_ ?_); kernel_rfl; intro K hK|refine hK _ _ (Rg.Keep.refl _) ?_; clear hK|refine hK _ _ (Rg.Keep.of_below (by assumption)) ?_; clear hK|(with_reducible refine Rg.plan_skip ?_ ?_); kernel_rfl|(with_reducible refine Rg.plan_done ?_)|(with_reducible refine Rg.calm_normal ?_))
         go_roundw
         case rel =>
          refine ⟨q + 1, by omega, by go_num, ?_, ?_, ?_, ?_, ?_⟩
          ·simp only [row?_drew]; rw [row?_setCell_ne _ _ _ _ (by first | omega | (simp; done) | (simp; omega)), row?_setCell_ne _ _ _ _ (by first | omega | (simp; done) | (simp; omega)), row?_setCell_ne _ _ _ _ (by first | omega | (simp; done) | (simp; omega)), row?_setCell_ne _ _ _ _ (by first | omega | (simp; done) | (simp; omega))]; exact I1.out
          ·simp only [row?_drew]; rw [row?_setCell_ne _ _ _ _ (by first | omega | (simp; done) | (simp; omega)), row?_setCell_ne _ _ _ _ (by first | omega | (simp; done) | (simp; omega)), row?_setCell_ne _ _ _ _ (by first | omega | (simp; done) | (simp; omega)), row?_setCell_ne _ _ _ _ (by first | omega | (simp; done) | (simp; omega))]; exact IB.out
          ·simp only [row?_drew]; rw [row?_setCell_ne _ _ _ _ (by first | omega | (simp; done) | (simp; omega)), row?_setCell_ne _ _ _ _ (by first | omega | (simp; done) | (simp; omega)), row?_setCell_ne _ _ _ _ (by first | omega | (simp; done) | (simp; omega)), row?_setCell_ne _ _ _ _ (by first | omega | (simp; done) | (simp; omega))]; exact IS.out
          ·simp only [row?_drew]; rw [row?_setCell_eq (row?_setCell_eq (row?_setCell_eq (row?_setCell_eq IT.out _) _) _), bvs_setn, bvs_setn, bvs_setn, bvs_setn]; exact congrArg (fun l => some (bvs l)) G.out
          ·first
           | exact ((((hb.setCell (by first | omega | (simp; done) | (simp; omega)) _).setCell (by first | omega | (simp; done) | (simp; omega)) _).setCell (by first | omega | (simp; done) | (simp; omega)) _).setCell (by first | omega | (simp; done) | (simp; omega)) _).drew.drew
           | exact ((((hb.setCell (by first | omega | (simp; done) | (simp; omega)) _).setCell (by first | omega | (simp; done) | (simp; omega)) _).setCell (by first | omega | (simp; done) | (simp; omega)) _).setCell (by first | omega | (simp; done) | (simp; omega)) _).drew
         case measure => simp [intOf]; omega
        ·obtain rfl : q = 4 := by omega
         rw [show 4 * 4 = 16 by omega, upto_full] at hT
         replace hT : row? wr wo.heap.size = some (bvs (mixed Q)) := hT
         have lT := mixed_length Q
         generalize mixed Q = T at hT lT HE
         clear I1 IB IS IT
         have qB := row?_lt hB'
         have hp : (loadAgg 22 (.pointer (some ⟨B, (n + 1) * 16, none⟩))).run Try.prog wr.drew = .ok (.agg (bvs (rowKey key (n + 1)))) wr.drew := by
          unfold loadAgg
          rw [run_loadAt_part (w := wr.drew) Ag16 (c := bvs (cipher key)) (o := (n + 1) * 16) hB' (by rw [bvs_size, cipher_length]; omega), bvs_extract, cipher_part key hk (n + 1) (by omega)]
         go_wp2_with fail
         refine Rg.wp_region_plan (Rg.row [(0, 0), (1, 3), (2, 3), (3, 3), (4, 3), (5, 3), (6, 0), (7, 1)] [8]) [8] (by kernel_rfl) (by kernel_rfl) ?_
         simp only [Rg.row, Rg.PT.map, List.map_cons, List.map_nil, List.getD_cons_zero, List.getD_cons_succ]
         go_wp2_with (first
          |(with_reducible refine Rg.plan_pure ?_ ?_ ?_); kernel_rfl; kernel_rfl; intro _ _|(with_reducible refine Rg.plan_take ?_ ?_ ?_); kernel_rfl; kernel_rfl; intro _ _|(with_reducible refine Rg.plan_keep ?_ ?_); kernel_rfl; intro K hK|refine hK _ _ (Rg.Keep.refl _) ?_; clear hK|refine hK _ _ (Rg.Keep.of_below (by assumption)) ?_; clear hK|(with_reducible refine Rg.plan_skip ?_ ?_); kernel_rfl|(with_reducible refine Rg.plan_done ?_)|(with_reducible refine Rg.calm_normal ?_))
         refine (cross_any _ _ lT (rowKey_length key hk (n + 1)) _).mono ?_
         rintro e wC ⟨rfl, hC⟩
         refine hK _ _ (Rg.Keep.of_below hC) ?_
         clear hK
         have qS := row?_lt hS
         have hAC : Below wr.heap.size wr wC := (Below.drew (Below.refl _ wr)).trans hC
         have g1 : row? wC (w.heap.size + 1) = some (bvs (zeros 16)) := by rw [row?_below hAC (by omega)]; exact h1
         have gB : row? wC B = some (bvs (cipher key)) := by rw [row?_below hAC (by omega)]; exact hB'
         have gS : row? wC (w.heap.size + 1 + 1) = some (bvs (handR key inp n)) := by rw [row?_below hAC (by omega)]; exact hS
         have gb : Below w.heap.size w wC := hb.trans (hAC.mono (by omega))
         have zC := hAC.size
         clear h1 hB' hS hb hC hAC hp
         go_wp2_with (first
          |(with_reducible refine Rg.plan_pure ?_ ?_ ?_); kernel_rfl; kernel_rfl; intro _ _|(with_reducible refine Rg.plan_take ?_ ?_ ?_); kernel_rfl; kernel_rfl; intro _ _|(with_reducible refine Rg.plan_keep ?_ ?_); kernel_rfl; intro K hK|refine hK _ _ (Rg.Keep.refl _) ?_; clear hK|refine hK _ _ (Rg.Keep.of_below (by assumption)) ?_; clear hK|(with_reducible refine Rg.plan_skip ?_ ?_); kernel_rfl|(with_reducible refine Rg.plan_done ?_)|(with_reducible refine Rg.calm_normal ?_))
         go_roundw
         case rel =>
          refine ⟨n + 1, by omega, by go_num, ?_, ?_, ?_, ?_, below_setRow gb (by first | omega | (simp; done) | (simp; omega)) _⟩
          ·rw [row?_setRow_ne _ _ _ _ (by first | omega | (simp; done) | (simp; omega))]; exact g1
          ·rw [row?_setRow_ne _ _ _ _ (by first | omega | (simp; done) | (simp; omega))]; exact gB
          ·rw [row?_setRow_eq gS, HE.out]
          ·exact row?_lt (row?_setRow_eq gS)
         case measure => simp [intOf]; omega
      ·obtain rfl : n = 9 := by omega
       have hE : add (boxed (handR key inp 9)) (rowKey key (9 + 1)) = handR key inp (9 + 1) := handR_end key inp
       generalize boxed (handR key inp 9) = T at hT lQ hE
       have HE := Lib.hid hE; clear hE
       have lT := lQ
       clear I1 IB IS
       have qB := row?_lt hB'
       have hp : (loadAgg 22 (.pointer (some ⟨B, 160, none⟩))).run Try.prog wr.drew = .ok (.agg (bvs (rowKey key 10))) wr.drew := by
        unfold loadAgg
        rw [run_loadAt_part (w := wr.drew) Ag16 (c := bvs (cipher key)) (o := 160) hB' (by rw [bvs_size, cipher_length]; omega), bvs_extract, cipher_part key hk 10 (by omega)]
       go_wp2_with fail
       refine Rg.wp_region_plan (Rg.row [(0, 0), (1, 3), (2, 3), (3, 3), (4, 3), (5, 3), (6, 0), (7, 1)] [8]) [8] (by kernel_rfl) (by kernel_rfl) ?_
       simp only [Rg.row, Rg.PT.map, List.map_cons, List.map_nil, List.getD_cons_zero, List.getD_cons_succ]
       go_wp2_with (first
        |(with_reducible refine Rg.plan_pure ?_ ?_ ?_); kernel_rfl; kernel_rfl; intro _ _|(with_reducible refine Rg.plan_take ?_ ?_ ?_); kernel_rfl; kernel_rfl; intro _ _|(with_reducible refine Rg.plan_keep ?_ ?_); kernel_rfl; intro K hK|refine hK _ _ (Rg.Keep.refl _) ?_; clear hK|refine hK _ _ (Rg.Keep.of_below (by assumption)) ?_; clear hK|(with_reducible refine Rg.plan_skip ?_ ?_); kernel_rfl|(with_reducible refine Rg.plan_done ?_)|(with_reducible refine Rg.calm_normal ?_))
       refine (cross_any _ _ lT (rowKey_length key hk 10) _).mono ?_
       rintro e wC ⟨rfl, hC⟩
       refine hK _ _ (Rg.Keep.of_below hC) ?_
       clear hK
       have qS := row?_lt hS
       have hAC : Below wr.heap.size wr wC := (Below.drew (Below.refl _ wr)).trans hC
       have g1 : row? wC (w.heap.size + 1) = some (bvs (zeros 16)) := by rw [row?_below hAC (by omega)]; exact h1
       have gB : row? wC B = some (bvs (cipher key)) := by rw [row?_below hAC (by omega)]; exact hB'
       have gS : row? wC (w.heap.size + 1 + 1) = some (bvs (handR key inp 9)) := by rw [row?_below hAC (by omega)]; exact hS
       have gb : Below w.heap.size w wC := hb.trans (hAC.mono (by omega))
       have zC := hAC.size
       clear h1 hB' hS hb hC hAC hp
       go_wp2_with (first
        |(with_reducible refine Rg.plan_pure ?_ ?_ ?_); kernel_rfl; kernel_rfl; intro _ _|(with_reducible refine Rg.plan_take ?_ ?_ ?_); kernel_rfl; kernel_rfl; intro _ _|(with_reducible refine Rg.plan_keep ?_ ?_); kernel_rfl; intro K hK|refine hK _ _ (Rg.Keep.refl _) ?_; clear hK|refine hK _ _ (Rg.Keep.of_below (by assumption)) ?_; clear hK|(with_reducible refine Rg.plan_skip ?_ ?_); kernel_rfl|(with_reducible refine Rg.plan_done ?_)|(with_reducible refine Rg.calm_normal ?_))
       go_roundw
       case rel =>
        refine ⟨9 + 1, by omega, rfl, ?_, ?_, ?_, ?_, below_setRow gb (by first | omega | (simp; done) | (simp; omega)) _⟩
        ·rw [row?_setRow_ne _ _ _ _ (by first | omega | (simp; done) | (simp; omega))]; exact g1
        ·rw [row?_setRow_ne _ _ _ _ (by first | omega | (simp; done) | (simp; omega))]; exact gB
        ·rw [row?_setRow_eq gS, HE.out]
        ·exact row?_lt (row?_setRow_eq gS)
       case measure => simp [intOf]
   ·obtain rfl : n = 10 := by omega
    replace hS : row? wo (w.heap.size + 1 + 1) = some (bvs (block key inp)) := hS
    have hbl := block_length key inp
    go_wp2_with fail
    exact ret16 (w.heap.size + 1) (bvs (block key inp)) rfl rfl rfl (row?_setRow_eq h1) (by rw [bvs_size]; exact block_length _ _) ⟨rfl, below_setRow hb (by omega) _⟩
end Go.Proofs.Ytjlpppnpdgenfaa
