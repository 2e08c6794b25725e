/- GcmRM; GcmR1. -/
import Derived.Test.YtjlpppnpdgenfaaMvb8
import Derived.Test.YtjlpppnpdgenfaaMvbAesR4
section
namespace Gcm
open Go.Rw Aes
def rbit (x : List UInt8) (i : Nat) : Bool := shr8 (nth x (i / 8)) (7 - i % 8) &&& 1 == 1
def rmulT (v : List UInt8) (k : Nat) : UInt8 := shr8 (nth v k) 1 ||| shl8 (nth v (k - 1)) 7
def rmulF (v : List UInt8) (k : Nat) : UInt8 := if k = 0 then (if nth v 15 &&& 1 == 1 then shr8 (nth v 0) 1 ^^^ 225 else shr8 (nth v 0) 1) else rmulT v k
def rmul (v : List UInt8) : List UInt8 := row16 (rmulF v)
@[go_sem] theorem rmul_length (v) : (rmul v).length = 16 := row16_length _
theorem rmul_get {v : List UInt8} {j : Nat} (h : j < 16) : nth (rmul v) j = rmulF v j := row16_get h
def rstep (x : List UInt8) (i : Nat) (s : List UInt8 × List UInt8) : List UInt8 × List UInt8 := (if rbit x i then add s.1 s.2 else s.1, rmul s.2)
def rrun (x y : List UInt8) : Nat → List UInt8 × List UInt8
 | 0 => (zeros 16, y)
 | n + 1 => rstep x n (rrun x y n)
def rtimes (x y : List UInt8) : List UInt8 := (rrun x y 128).1
theorem rrun_length (x y : List UInt8) (hy : y.length = 16) : ∀ n, (rrun x y n).1.length = 16 ∧ (rrun x y n).2.length = 16
 | 0 => ⟨zeros_length _, hy⟩
 | n + 1 => by
  have ih := rrun_length x y hy n
  refine ⟨?_, row16_length _⟩
  simp only [rrun, rstep]
  split
  ·exact add_length _ _
  ·exact ih.1
def dnF (v : List UInt8) (k j : Nat) : UInt8 := if k < j then rmulT v j else nth v j
def dn (v : List UInt8) (k : Nat) : List UInt8 := row16 (dnF v k)
@[go_sem] theorem dn_length (v k) : (dn v k).length = 16 := row16_length _
theorem dn_get {v : List UInt8} {k j : Nat} (h : j < 16) : nth (dn v k) j = if k < j then rmulT v j else nth v j := row16_get h
theorem dn_full (v : List UInt8) (hv : v.length = 16) : dn v 15 = v := by
 apply ext16 (n := 16) (dn_length _ _) hv
 intro j hj
 rw [dn_get hj, if_neg (by omega)]
theorem dn_set (v : List UInt8) (k : Nat) (hk : k + 1 < 16) : (dn v (k + 1)).set (k + 1) (shr8 (nth (dn v (k + 1)) (k + 1)) 1 ||| shl8 (nth (dn v (k + 1)) k) 7) = dn v k := by
 apply ext16 (n := 16) (by simp [dn_length]) (dn_length _ _)
 intro j hj
 have e1 : nth (dn v (k + 1)) (k + 1) = nth v (k + 1) := by rw [dn_get hk, if_neg (Nat.lt_irrefl _)]
 have e2 : nth (dn v (k + 1)) k = nth v k := by rw [dn_get (by omega), if_neg (by omega)]
 rw [set_get _ _ _ _ (by rw [dn_length]; exact hk), e1, e2, dn_get hj, dn_get hj]
 by_cases e : k + 1 = j
 ·subst e; rw [if_pos rfl, if_pos (by omega)]; rfl
 ·rw [if_neg e]
  by_cases h : k + 1 < j
  ·rw [if_pos h, if_pos (by omega)]
  ·rw [if_neg h, if_neg (by omega)]
theorem dn_zero (v : List UInt8) : nth (dn v 0) 0 = nth v 0 := by rw [dn_get (by omega), if_neg (by omega)]
theorem rmul_plain (v : List UInt8) (h : (nth v 15 &&& 1 == 1) = false) : (dn v 0).set 0 (shr8 (nth v 0) 1) = rmul v := by
 apply ext16 (n := 16) (by simp [dn_length]) (rmul_length _)
 intro j hj
 rw [set_get _ _ _ _ (by rw [dn_length]; omega), dn_get hj, rmul_get hj, rmulF, h]
 by_cases e : 0 = j
 ·subst e; simp
 ·rw [if_neg e, if_pos (by omega), if_neg (fun x => e x.symm)]
theorem rmul_poly (v : List UInt8) (h : (nth v 15 &&& 1 == 1) = true) : ((dn v 0).set 0 (shr8 (nth v 0) 1)).set 0 (shr8 (nth v 0) 1 ^^^ 225) = rmul v := by
 apply ext16 (n := 16) (by simp [dn_length]) (rmul_length _)
 intro j hj
 rw [set_get _ _ _ _ (by rw [List.length_set, dn_length]; omega), set_get _ _ _ _ (by rw [dn_length]; omega), dn_get hj, rmul_get hj, rmulF, h]
 by_cases e : 0 = j
 ·subst e; simp
 ·rw [if_neg e, if_neg e, if_pos (by omega), if_neg (fun x => e x.symm)]
theorem ctr_sets (nonce : List UInt8) (n : Nat) (hn : nonce.length = 12) :
  ((((nonce ++ zeros 4).set 12 (byteOf n 24)).set 13 (byteOf n 16)).set 14 (byteOf n 8)).set 15 (byteOf n 0) = ctr nonce n := by
 apply ext16 (n := 16) (by simp [hn, zeros]) (ctr_length _ _)
 intro i hi
 have hl : (nonce ++ zeros 4).length = 16 := by simp [hn, zeros]
 have hc : nth (ctr nonce n) i = ctrF nonce n i := row16_get hi
 rw [set_get _ _ _ _ (by simp [hl]), set_get _ _ _ _ (by simp [hl]), set_get _ _ _ _ (by simp [hl]), set_get _ _ _ _ (by simp [hl]), hc, ctrF]
 by_cases h : i < 12
 ·rw [if_neg (by omega), if_neg (by omega), if_neg (by omega), if_neg (by omega), if_pos h, nth_append, if_pos (by omega)]
 ·rw [if_neg h]
  have : i = 12 ∨ i = 13 ∨ i = 14 ∨ i = 15 := by omega
  rcases this with rfl | rfl | rfl | rfl <;> simp
theorem byte_low (n : Nat) (h : n < 4294967296) : Go.IntKind.u8.wrap ((n : Nat) : Int) = (n8 (byteOf n 0) : Nat) := by
 have e : shr32 n 0 = n := by simp [shr32]
 have := wrap8_byte n 0
 rw [e] at this; exact this
theorem upto_over (f : Nat → UInt8) (z : List UInt8) (n k : Nat) (h : n ≤ k) : upto f z n k = (List.range n).map f := by
 apply ext16 (upto_length ..) (by simp)
 intro i hi
 rw [upto_lo hi (by omega)]; simp [nth, hi]
end Gcm

end
section
namespace Go.Proofs.Ytjlpppnpdgenfaa
open Go.RowKit Go.Rw Aes Gcm
attribute [local go_sem ↓] ld16 st16 al16 shift_shl8 shift_shr8 bvs_getElem?
attribute [local go_sem] rld16 rst16 ral16 setRow_alloc_at setRow_alloc_past setRow_drew bvs_setn
theorem bel4 (w : World) (a b c d : Obj) : Below w.heap.size w ((((w.alloc a).alloc b).alloc c).alloc d) := (((((Below.refl _ _).alloc (Nat.le_refl _) _).alloc (by simp) _).alloc (by simp; omega) _).alloc (by simp; omega) _)
theorem bel5 (w : World) (a b c d e : Obj) : Below w.heap.size w (((((w.alloc a).alloc b).alloc c).alloc d).alloc e) := (bel4 w a b c d).alloc (by simp; omega) _
set_option maxRecDepth 100000 in
set_option maxHeartbeats 4000000 in
theorem rtimes_any (x y : List UInt8) (hx : x.length = 16) (hy : y.length = 16) (w : World) :
  Calls Try.prog 91 #[.agg (bvs x), .agg (bvs y)] w fun e w' => e = .returned (.agg (bvs (rtimes x y))) ∧ Below w.heap.size w w' := by
 go_enter Try.func91, Try.ntmps91
 go_wp2_with fail
 go_loopw [7] (fun v wr => ∃ k : Nat, k ≤ 128 ∧ v = .int .i64 k ∧ row? wr w.heap.size = some (bvs x) ∧ row? wr (w.heap.size + 2) = some (bvs (zeros 16)) ∧ row? wr (w.heap.size + 3) = some (bvs (rrun x y k).1) ∧ row? wr (w.heap.size + 4) = some (bvs (rrun x y k).2) ∧ Below w.heap.size w wr) (fun v _ => 128 - (intOf v).toNat)
 case atStart => exact ⟨0, by omega, rfl, by simp [go_sem], by simp [go_sem], by simp [go_sem]; rfl, by simp [go_sem]; rfl, bel5 _ _ _ _ _ _⟩
 case round =>
  obtain ⟨k, hk, rfl, h0, h2, h3, h4, hb⟩ := hrel
  by_cases hlt : k < 128
  ·have hl := rrun_length x y hy k
   have E := Lib.hid (show rrun x y (k + 1) = rstep x k (rrun x y k) from rfl)
   generalize rrun x y k = s at *
   obtain ⟨z, v⟩ := s
   dsimp only at h3 h4 hl
   obtain ⟨hz, hv⟩ := hl
   have H0 := Lib.hid h0
   have H2 := Lib.hid h2
   have H3 := Lib.hid h3
   have H4 := Lib.hid h4
   have c0 := row?_cell h0
   have s0 : (k : Int) % 8 ≤ 7 := by omega
   have s1 : ((7 : Int) - (k : Int) % 8).toNat = 7 - k % 8 := by omega
   clear h0 h2 h3 h4
   cases hbit : rbit x k
   ·have E2 := Lib.hid (show rrun x y (k + 1) = (z, rmul v) by rw [E.out]; unfold rstep; rw [hbit]; rfl)
    unfold rbit at hbit
    clear E
    have hlow : (nth v 15 &&& 1 == 1) = true ∨ (nth v 15 &&& 1 == 1) = false := by cases (nth v 15 &&& 1 == 1) <;> simp
    have c4 := row?_cell H4.out
    go_wp2_with fail
    go_loopw [10] (fun u wr => ∃ k2 : Nat, k2 ≤ 15 ∧ u = .int .i64 k2 ∧ row? wr w.heap.size = some (bvs x) ∧ row? wr (w.heap.size + 2) = some (bvs (zeros 16)) ∧ row? wr (w.heap.size + 3) = some (bvs z) ∧ row? wr (w.heap.size + 4) = some (bvs (dn v k2)) ∧ Below w.heap.size w wr) (fun u _ => (intOf u).toNat)
    case atStart => exact ⟨15, by omega, rfl, H0.out, H2.out, H3.out, by rw [dn_full v hv]; exact H4.out, hb⟩
    case round =>
     obtain ⟨k2, hk2, rfl, h0, h2, h3, h4, hb⟩ := hrel
     have H0 := Lib.hid h0
     have H2 := Lib.hid h2
     have H3 := Lib.hid h3
     have H4 := Lib.hid h4
     clear c4
     have c4 := row?_cell h4
     have f4 := row?_frozen h4
     clear h0 h2 h3 h4
     by_cases hlt2 : 0 < k2
     ·obtain ⟨m, rfl⟩ : ∃ m, k2 = m + 1 := ⟨k2 - 1, by omega⟩
      have G := Lib.hid (dn_set v m (by omega))
      go_wp2_with fail
      refine Rg.wp_region_plan (Rg.row [(0, 3), (1, 3), (2, 3), (3, 0), (4, 3), (5, 3), (6, 3), (7, 3), (8, 0), (9, 3), (10, 3), (11, 3)] [12]) [12] (by kernel_rfl) (by kernel_rfl) ?_
      simp only [Rg.row, Rg.PT.map, List.map_cons, List.map_nil, List.getD_cons_zero, List.getD_cons_succ]
      go_wp2_with (first
       |(with_reducible refine Rg.plan_pure ?_ ?_ ?_); kernel_rfl; kernel_rfl; intro _ _|(with_reducible refine Rg.plan_take ?_ ?_ ?_); kernel_rfl; kernel_rfl; intro _ _|(with_reducible refine Rg.plan_keep ?_ ?_); kernel_rfl; intro K hK|refine hK _ _ (Rg.Keep.refl _) ?_; clear hK|refine hK _ _ (Rg.Keep.of_below (by assumption)) ?_; clear hK|(with_reducible refine Rg.plan_skip ?_ ?_); kernel_rfl|(with_reducible refine Rg.plan_done ?_)|(with_reducible refine Rg.calm_normal ?_))
      go_roundw
      case rel =>
       refine ⟨m, by omega, by go_num, ?_, ?_, ?_, ?_, (hb.setCell (by simp <;> omega) _).drew⟩
       ·rw [row?_drew, row?_setCell_ne _ _ _ _ (by simp <;> omega)]; exact H0.out
       ·rw [row?_drew, row?_setCell_ne _ _ _ _ (by simp <;> omega)]; exact H2.out
       ·rw [row?_drew, row?_setCell_ne _ _ _ _ (by simp <;> omega)]; exact H3.out
       ·rw [row?_drew, row?_setCell_eq H4.out, bvs_setn]; exact congrArg (fun l => some (bvs l)) G.out
      case measure => simp [intOf]; try omega
     ·obtain rfl : k2 = 0 := by omega
      have dz := dn_zero v
      rcases hlow with hlow | hlow
      ·have G := Lib.hid (rmul_poly v hlow)
       go_wp2_with fail
       go_roundw
       case rel =>
        refine ⟨k + 1, by omega, by go_num, ?_, ?_, ?_, ?_, (hb.setCell (by simp <;> omega) _).setCell (by simp <;> omega) _⟩
        ·rw [row?_setCell_ne _ _ _ _ (by simp <;> omega), row?_setCell_ne _ _ _ _ (by simp <;> omega)]; exact H0.out
        ·rw [row?_setCell_ne _ _ _ _ (by simp <;> omega), row?_setCell_ne _ _ _ _ (by simp <;> omega)]; exact H2.out
        ·rw [row?_setCell_ne _ _ _ _ (by simp <;> omega), row?_setCell_ne _ _ _ _ (by simp <;> omega), E2.out]; exact H3.out
        ·rw [row?_setCell_eq (row?_setCell_eq H4.out _), bvs_setn, bvs_setn, E2.out]; exact congrArg (fun l => some (bvs l)) G.out
       case measure => simp [intOf]; omega
      ·have G := Lib.hid (rmul_plain v hlow)
       go_wp2_with fail
       go_roundw
       case rel =>
        refine ⟨k + 1, by omega, by go_num, ?_, ?_, ?_, ?_, hb.setCell (by simp <;> omega) _⟩
        ·rw [row?_setCell_ne _ _ _ _ (by simp <;> omega)]; exact H0.out
        ·rw [row?_setCell_ne _ _ _ _ (by simp <;> omega)]; exact H2.out
        ·rw [row?_setCell_ne _ _ _ _ (by simp <;> omega), E2.out]; exact H3.out
        ·rw [row?_setCell_eq H4.out, bvs_setn, E2.out]; exact congrArg (fun l => some (bvs l)) G.out
       case measure => simp [intOf]; omega
   ·have E2 := Lib.hid (show rrun x y (k + 1) = (add z v, rmul v) by rw [E.out]; unfold rstep; rw [hbit]; rfl)
    unfold rbit at hbit
    clear E
    go_wp2_with fail
    go_loopw [8] (fun u wr => ∃ k2 : Nat, k2 ≤ 16 ∧ u = .int .i64 k2 ∧ row? wr w.heap.size = some (bvs x) ∧ row? wr (w.heap.size + 2) = some (bvs (zeros 16)) ∧ row? wr (w.heap.size + 3) = some (bvs (upto (addF z v) z 16 k2)) ∧ row? wr (w.heap.size + 4) = some (bvs v) ∧ Below w.heap.size w wr) (fun u _ => 16 - (intOf u).toNat)
    case atStart => exact ⟨0, by omega, rfl, H0.out, H2.out, by rw [upto_zero _ _ _ hz]; exact H3.out, H4.out, hb⟩
    case round =>
     obtain ⟨k2, hk2, rfl, h0, h2, h3, h4, hb⟩ := hrel
     clear H0 H2 H3 H4 c0
     by_cases hlt2 : k2 < 16
     ·have g := upto_set (addF z v) z 16 k2 hlt2
      have ghi := upto_hi (f := addF z v) (z := z) hlt2 (Nat.le_refl k2)
      have G := Lib.hid g; clear g
      have H0 := Lib.hid h0
      have H2 := Lib.hid h2
      have H3 := Lib.hid h3
      have H4 := Lib.hid h4
      have c3 := row?_cell h3
      have c4 := row?_cell h4
      have f3 := row?_frozen h3
      clear h0 h2 h3 h4
      go_wp2_with fail
      refine Rg.wp_region_plan (Rg.row [(0, 3), (1, 3), (2, 3), (3, 0), (4, 3), (5, 3), (6, 0), (7, 3), (8, 3)] [9]) [9] (by kernel_rfl) (by kernel_rfl) ?_
      simp only [Rg.row, Rg.PT.map, List.map_cons, List.map_nil, List.getD_cons_zero, List.getD_cons_succ]
      go_wp2_with (first
       |(with_reducible refine Rg.plan_pure ?_ ?_ ?_); kernel_rfl; kernel_rfl; intro _ _|(with_reducible refine Rg.plan_take ?_ ?_ ?_); kernel_rfl; kernel_rfl; intro _ _|(with_reducible refine Rg.plan_keep ?_ ?_); kernel_rfl; intro K hK|refine hK _ _ (Rg.Keep.refl _) ?_; clear hK|refine hK _ _ (Rg.Keep.of_below (by assumption)) ?_; clear hK|(with_reducible refine Rg.plan_skip ?_ ?_); kernel_rfl|(with_reducible refine Rg.plan_done ?_)|(with_reducible refine Rg.calm_normal ?_))
      go_roundw
      case rel =>
       refine ⟨k2 + 1, by omega, by go_num, ?_, ?_, ?_, ?_, (hb.setCell (by simp <;> omega) _).drew⟩
       ·rw [row?_drew, row?_setCell_ne _ _ _ _ (by simp <;> omega)]; exact H0.out
       ·rw [row?_drew, row?_setCell_ne _ _ _ _ (by simp <;> omega)]; exact H2.out
       ·rw [row?_drew, row?_setCell_eq H3.out, bvs_setn]; exact congrArg (fun l => some (bvs l)) G.out
       ·rw [row?_drew, row?_setCell_ne _ _ _ _ (by simp <;> omega)]; exact H4.out
      case measure => simp [intOf]; omega
     ·obtain rfl : k2 = 16 := by omega
      rw [upto_full] at h3
      have hadd : (List.range 16).map (addF z v) = add z v := rfl
      rw [hadd] at h3
      have H0 := Lib.hid h0
      have H2 := Lib.hid h2
      have H3 := Lib.hid h3
      have H4 := Lib.hid h4
      clear h0 h2 h3 h4
      have hlow : (nth v 15 &&& 1 == 1) = true ∨ (nth v 15 &&& 1 == 1) = false := by cases (nth v 15 &&& 1 == 1) <;> simp
      have c4 := row?_cell H4.out
      go_wp2_with fail
      go_loopw [10] (fun u wr => ∃ k2 : Nat, k2 ≤ 15 ∧ u = .int .i64 k2 ∧ row? wr w.heap.size = some (bvs x) ∧ row? wr (w.heap.size + 2) = some (bvs (zeros 16)) ∧ row? wr (w.heap.size + 3) = some (bvs (add z v)) ∧ row? wr (w.heap.size + 4) = some (bvs (dn v k2)) ∧ Below w.heap.size w wr) (fun u _ => (intOf u).toNat)
      case atStart => exact ⟨15, by omega, rfl, H0.out, H2.out, H3.out, by rw [dn_full v hv]; exact H4.out, hb⟩
      case round =>
       obtain ⟨k2, hk2, rfl, h0, h2, h3, h4, hb⟩ := hrel
       have H0 := Lib.hid h0
       have H2 := Lib.hid h2
       have H3 := Lib.hid h3
       have H4 := Lib.hid h4
       clear c4
       have c4 := row?_cell h4
       have f4 := row?_frozen h4
       clear h0 h2 h3 h4
       by_cases hlt2 : 0 < k2
       ·obtain ⟨m, rfl⟩ : ∃ m, k2 = m + 1 := ⟨k2 - 1, by omega⟩
        have G := Lib.hid (dn_set v m (by omega))
        go_wp2_with fail
        refine Rg.wp_region_plan (Rg.row [(0, 3), (1, 3), (2, 3), (3, 0), (4, 3), (5, 3), (6, 3), (7, 3), (8, 0), (9, 3), (10, 3), (11, 3)] [12]) [12] (by kernel_rfl) (by kernel_rfl) ?_
        simp only [Rg.row, Rg.PT.map, List.map_cons, List.map_nil, List.getD_cons_zero, List.getD_cons_succ]
        go_wp2_with (first
         |(with_reducible refine Rg.plan_pure ?_ ?_ ?_); kernel_rfl; kernel_rfl; intro _ _|(with_reducible refine Rg.plan_take ?_ ?_ ?_); kernel_rfl; kernel_rfl; intro _ _|(with_reducible refine Rg.plan_keep ?_ ?_); kernel_rfl; intro K hK|refine hK _ _ (Rg.Keep.refl _) ?_; clear hK|refine hK _ _ (Rg.Keep.of_below (by assumption)) ?_; clear hK|(with_reducible refine Rg.plan_skip ?_ ?_); kernel_rfl|(with_reducible refine Rg.plan_done ?_)|(with_reducible refine Rg.calm_normal ?_))
        go_roundw
        case rel =>
         refine ⟨m, by omega, by go_num, ?_, ?_, ?_, ?_, (hb.setCell (by simp <;> omega) _).drew⟩
         ·rw [row?_drew, row?_setCell_ne _ _ _ _ (by simp <;> omega)]; exact H0.out
         ·rw [row?_drew, row?_setCell_ne _ _ _ _ (by simp <;> omega)]; exact H2.out
         ·rw [row?_drew, row?_setCell_ne _ _ _ _ (by simp <;> omega)]; exact H3.out
         ·rw [row?_drew, row?_setCell_eq H4.out, bvs_setn]; exact congrArg (fun l => some (bvs l)) G.out
        case measure => simp [intOf]; try omega
       ·obtain rfl : k2 = 0 := by omega
        have dz := dn_zero v
        rcases hlow with hlow | hlow
        ·have G := Lib.hid (rmul_poly v hlow)
         go_wp2_with fail
         go_roundw
         case rel =>
          refine ⟨k + 1, by omega, by go_num, ?_, ?_, ?_, ?_, (hb.setCell (by simp <;> omega) _).setCell (by simp <;> omega) _⟩
          ·rw [row?_setCell_ne _ _ _ _ (by simp <;> omega), row?_setCell_ne _ _ _ _ (by simp <;> omega)]; exact H0.out
          ·rw [row?_setCell_ne _ _ _ _ (by simp <;> omega), row?_setCell_ne _ _ _ _ (by simp <;> omega)]; exact H2.out
          ·rw [row?_setCell_ne _ _ _ _ (by simp <;> omega), row?_setCell_ne _ _ _ _ (by simp <;> omega), E2.out]; exact H3.out
          ·rw [row?_setCell_eq (row?_setCell_eq H4.out _), bvs_setn, bvs_setn, E2.out]; exact congrArg (fun l => some (bvs l)) G.out
         case measure => simp [intOf]; omega
        ·have G := Lib.hid (rmul_plain v hlow)
         go_wp2_with fail
         go_roundw
         case rel =>
          refine ⟨k + 1, by omega, by go_num, ?_, ?_, ?_, ?_, hb.setCell (by simp <;> omega) _⟩
          ·rw [row?_setCell_ne _ _ _ _ (by simp <;> omega)]; exact H0.out
          ·rw [row?_setCell_ne _ _ _ _ (by simp <;> omega)]; exact H2.out
          ·rw [row?_setCell_ne _ _ _ _ (by simp <;> omega), E2.out]; exact H3.out
          ·rw [row?_setCell_eq H4.out, bvs_setn, E2.out]; exact congrArg (fun l => some (bvs l)) G.out
         case measure => simp [intOf]; omega
  ·have hl1 := (rrun_length x y hy k).1
   go_wp2_with fail
   obtain rfl : k = 128 := by omega
   have zl := hb.size
   have hrt : (rrun x y 128).1 = rtimes x y := rfl
   rw [hrt] at h3
   exact ret16 (w.heap.size + 2) (bvs (rtimes x y)) rfl rfl rfl (row?_setRow_eq h2) (by rw [bvs_size]; exact (rrun_length x y hy 128).1) ⟨rfl, below_setRow hb (by omega) _⟩
end Go.Proofs.Ytjlpppnpdgenfaa

end
