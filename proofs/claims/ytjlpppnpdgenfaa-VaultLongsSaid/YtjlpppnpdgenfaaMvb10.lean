/- AesR1; AesR2; AesR3. -/
import Derived.Test.YtjlpppnpdgenfaaMvb9
import Derived.Test.YtjlpppnpdgenfaaMvb7
section
namespace Go.Proofs.Ytjlpppnpdgenfaa
open Go.RowKit Go.Rw Aes
attribute [local go_sem ↓] ld16 st16 al16 ld176 st176 al176 shift_shl8 shift_shr8 bvs_getElem?
attribute [local go_sem] rst16p rld16p rld16 rst16 ral16 rld176 rst176 ral176 setRow_alloc_at setRow_alloc_past setRow_drew bvs_setn
theorem double_ge (a : UInt8) (h : 128 ≤ n8 a) : double a = shl8 a 1 ^^^ 27 := by
 have := all8 (p := fun a => 128 ≤ n8 a → double a = shl8 a 1 ^^^ 27) (by decide +kernel) a
 exact this h
theorem double_lt (a : UInt8) (h : ¬ 128 ≤ n8 a) : double a = shl8 a 1 := by
 have := all8 (p := fun a => ¬ 128 ≤ n8 a → double a = shl8 a 1) (by decide +kernel) a
 exact this h
set_option maxRecDepth 100000 in
set_option maxHeartbeats 400000 in
theorem rdouble_any (a : UInt8) (w : World) :
  Calls Try.prog 89 #[.int .u8 (n8 a : Nat)] w fun e w' => e = .returned (.int .u8 (n8 (double a) : Nat)) ∧ w = w' := by
 by_cases h : 128 ≤ n8 a
 ·have E := Lib.hid (double_ge a h)
  go_enter Try.func89, Try.ntmps89
  go_wp2
  go_ret
  exact ⟨by rw [E.out]; rfl, rfl⟩
 ·have E := Lib.hid (double_lt a h)
  go_enter Try.func89, Try.ntmps89
  go_wp2
  go_ret
  exact ⟨by rw [E.out]; rfl, rfl⟩
set_option maxRecDepth 100000 in
set_option maxHeartbeats 400000 in
theorem cross_any (s k : List UInt8) (hs : s.length = 16) (hk : k.length = 16) (w : World) :
  Calls Try.prog 90 #[.agg (bvs s), .agg (bvs k)] w fun e w' => e = .returned (.agg (bvs (add s k))) ∧ Below w.heap.size w w' := by
 go_enter Try.func90, Try.ntmps90
 go_wp2_with fail
 go_loopw [5] (fun v wr => ∃ j : Nat, j ≤ 16 ∧ v = .int .i64 j ∧ row? wr w.heap.size = some (bvs (upto (addF s k) s 16 j)) ∧ row? wr (w.heap.size + 1) = some (bvs k) ∧
   row? wr (w.heap.size + 2) = some (bvs (zeros 16)) ∧ Below w.heap.size w wr) (fun v _ => 16 - (intOf v).toNat)
 case atStart => exact ⟨0, by omega, rfl, by rw [upto_zero _ _ _ hs]; simp [go_sem], by simp [go_sem], by simp [go_sem], (bel2a _ _ _).alloc (by simp; omega) _⟩
 case round =>
  obtain ⟨j, hj, rfl, h0, h1, h2, hb⟩ := hrel
  by_cases hlt : j < 16
  ·have g := upto_set (addF s k) s 16 j hlt
   have ghi := upto_hi (f := addF s k) (z := s) hlt (Nat.le_refl j)
   have G := Lib.hid g; clear g
   have H0 := Lib.hid h0
   have H1 := Lib.hid h1
   have H2 := Lib.hid h2
   have c0 := row?_cell h0
   have c1 := row?_cell h1
   have f0 := row?_frozen h0
   clear h0 h1 h2
   go_wp2_with fail
   refine Rg.wp_region_plan (Rg.row [(0, 3), (1, 3), (2, 3), (3, 0), (4, 3), (5, 3), (6, 0), (7, 3), (8, 3)] [9]) [9] (by kernel_rfl) (by kernel_rfl) ?_
   simp only [Rg.row, Rg.PT.map, List.map_cons, List.map_nil, List.getD_cons_zero, List.getD_cons_succ]
   go_wp2_with (first
    |(with_reducible refine Rg.plan_pure ?_ ?_ ?_); kernel_rfl; kernel_rfl; intro _ _|(with_reducible refine Rg.plan_take ?_ ?_ ?_); kernel_rfl; kernel_rfl; intro _ _|(with_reducible refine Rg.plan_keep ?_ ?_); kernel_rfl; intro K hK|refine hK _ _ (Rg.Keep.refl _) ?_; clear hK|refine hK _ _ (Rg.Keep.of_below (by assumption)) ?_; clear hK|(with_reducible refine Rg.plan_skip ?_ ?_); kernel_rfl|(with_reducible refine Rg.plan_done ?_)|(with_reducible refine Rg.calm_normal ?_))
   go_roundw
   case rel =>
    refine ⟨j + 1, by omega, by go_num, ?_, ?_, ?_, (hb.setCell (Nat.le_refl _) _).drew⟩
    ·rw [row?_drew, row?_setCell_eq H0.out, bvs_setn]; exact congrArg (fun l => some (bvs l)) G.out
    ·rw [row?_drew, row?_setCell_ne _ _ _ _ (by simp)]; exact H1.out
    ·rw [row?_drew, row?_setCell_ne _ _ _ _ (by simp)]; exact H2.out
   case measure => simp [intOf]; omega
  ·obtain rfl : j = 16 := by omega
   rw [upto_full] at h0
   go_wp2_with fail
   refine ret16 (w.heap.size + 2) (bvs (add s k)) rfl rfl rfl (row?_setRow_eq h2) (by rw [bvs_size]; exact add_length _ _) ⟨rfl, ?_⟩
   exact below_setRow hb (by omega) _
end Go.Proofs.Ytjlpppnpdgenfaa

end
section
namespace Aes
open Go.Rw
def outF (b : Nat) : UInt8 := affAt (invOf b) 5
theorem out_tab : upto outF (zeros 256) 256 256 = boxTab := by
 rw [upto_full]
 apply ext16 (n := 256) (by simp) boxTab_length
 intro i hi
 rw [← out_eq i hi]; simp [nth, hi, outF]
theorem byte_nat (k : Nat) (h : k < 256) : Go.Value.int .u8 (k : Int) = .int .u8 (n8 (UInt8.ofNat k) : Nat) := by rw [n8_ofNat _ h]
end Aes
namespace Go.Proofs.Ytjlpppnpdgenfaa
open Go.RowKit Go.Rw Aes
theorem Ag256 : Agg Try.prog 113 256 := ⟨⟨_, Try.underlying113, rfl⟩, by kernel_rfl⟩
theorem ld256 (x : Value) : Instr.loadAt 113 x = loadAgg 113 x := rfl
theorem st256 (x y : Value) : Instr.storeAt 113 x y = storeAgg 113 x y := rfl
theorem al256 : Instr.alloc 113 true (.tuple #[]) = allocAgg 113 := rfl
theorem rld256 (w : World) (b : Nat) (h : (row? w b).map (·.size) = some 256) : (loadAgg 113 (.pointer (some ⟨b, 0, none⟩))).run Try.prog w = .ok (.agg ((row? w b).getD #[])) w := load_rule Ag256 w b h
theorem rst256 (w : World) (b : Nat) (c' : Array Value) (h : (row? w b).map (·.size) = some 256) (hn : c'.size = 256) (h1 : allOne c' = true) : (storeAgg 113 (.pointer (some ⟨b, 0, none⟩)) (.agg c')).run Try.prog w = .ok () (w.setRow b c') := store_rule Ag256 w b c' h hn h1
theorem ral256 (w : World) : (allocAgg 113).run Try.prog w = .ok (.pointer (some ⟨w.heap.size, 0, none⟩)) (w.alloc (.cells (bvs (zeros 256)) 113)) := alloc_rule (n := 256) (by kernel_rfl) w
theorem ret256 {fn : Func} {p : Tmp} {R : Ending → World → Prop} {a : Act} {w : World} (b : Nat) (c : Array Value) (hr : fn.results = #[.cell p 113]) (hp : a.tmps.getD p undef = .pointer (some ⟨b, 0, none⟩)) (hd : a.defers = [])
  (h : row? w b = some c) (hn : c.size = 256) (hR : R (.returned (.agg c)) w) : bodyPost Try.prog fn R .ret a w :=
 bodyPost_ret (results_row Ag256 hr _ _ b c hp h hn) hd hR
attribute [local go_sem ↓] ld16 st16 al16 ld176 st176 al176 ld256 st256 al256 shift_shl8 shift_shr8 bvs_getElem?
attribute [local go_sem] rst16p rld16p rld16 rst16 ral16 rld176 rst176 ral176 rld256 rst256 ral256 setRow_alloc_at setRow_alloc_past setRow_drew bvs_setn
set_option maxRecDepth 100000 in
set_option maxHeartbeats 1000000 in
theorem rboxes_any (w : World) :
  Calls Try.prog 77 #[] w fun e w' => e = .returned (.agg (bvs boxTab)) ∧ Below w.heap.size w w' := by
 go_enter Try.func77, Try.ntmps77
 go_wp2_with fail
 go_loopw [3, 4] (fun x v wr => ∃ i : Nat, i ≤ 255 ∧ v = .int .i64 i ∧ x = .int .u8 (n8 (pw i) : Nat) ∧ row? wr w.heap.size = some (bvs (zeros 256)) ∧ row? wr (w.heap.size + 1) = some (bvs (upto pw (zeros 256) 256 i)) ∧ row? wr (w.heap.size + 1 + 1) = some (bvs (lgL i)) ∧ Below w.heap.size w wr) (fun _ v _ => 300 - (intOf v).toNat)
 case atStart => exact ⟨0, by omega, rfl, rfl, by simp [go_sem], by rw [upto_zero _ _ _ (zeros_length _)]; simp [go_sem], by simp [go_sem]; rfl, (bel2a _ _ _).alloc (by first | omega | (simp; done) | (simp; omega)) _⟩
 case round =>
  obtain ⟨i, hi, rfl, rfl, h0, h1, h2, hb⟩ := hrel
  by_cases hlt : i < 255
  ·have g := upto_set pw (zeros 256) 256 i (by omega)
   have hx := n8_lt (pw i)
   have hll := lgL_length i
   have G := Lib.hid g; clear g
   have G2 := Lib.hid (show lgL (i + 1) = (lgL i).set (n8 (pw i)) (UInt8.ofNat i) from rfl)
   have G3 := Lib.hid (show pw (i + 1) = pw i ^^^ double (pw i) from rfl)
   have I0 := Lib.hid h0
   have I1 := Lib.hid h1
   have I2 := Lib.hid h2
   have c1 := row?_cell h1
   have c2 := row?_cell h2
   have f1 := row?_frozen h1
   have f2 := row?_frozen h2
   clear h0 h1 h2
   go_wp2_with (go_at_call 89; refine (rdouble_any _ _).mono ?_; rintro e w' ⟨rfl, rfl⟩)
   go_roundw
   case rel =>
    refine ⟨i + 1, by omega, by go_num, by rw [G3.out], ?_, ?_, ?_, (hb.setCell (by first | omega | (simp; done) | (simp; omega)) _).setCell (by first | omega | (simp; done) | (simp; omega)) _⟩
    ·rw [row?_setCell_ne _ _ _ _ (by first | omega | (simp; done) | (simp; omega)), row?_setCell_ne _ _ _ _ (by first | omega | (simp; done) | (simp; omega))]; exact I0.out
    ·rw [row?_setCell_ne _ _ _ _ (by first | omega | (simp; done) | (simp; omega)), row?_setCell_eq I1.out, bvs_setn]; exact congrArg (fun l => some (bvs l)) G.out
    ·rw [row?_setCell_eq (by rw [row?_setCell_ne _ _ _ _ (by first | omega | (simp; done) | (simp; omega))]; exact I2.out), byte_nat i (by omega), bvs_setn, G2.out]
   case measure => simp [intOf]; omega
  ·obtain rfl : i = 255 := by omega
   have I0 := Lib.hid h0
   have I1 := Lib.hid h1
   have I2 := Lib.hid h2
   have q2 := row?_lt h2
   clear h0 h1 h2
   obtain ⟨w1, rfl⟩ : ∃ w1 : World, w1 = wr := ⟨_, rfl⟩
   have hll := lgL_length 255
   go_wp2_with fail
   push_cast
   go_loopw [6] (fun v wr => ∃ b : Nat, b ≤ 256 ∧ v = .int .i64 b ∧ row? wr w.heap.size = some (bvs (zeros 256)) ∧ row? wr (w.heap.size + 1) = some (bvs (upto pw (zeros 256) 256 255)) ∧ row? wr (w.heap.size + 1 + 1) = some (bvs (lgL 255)) ∧ row? wr w1.heap.size = some (bvs (upto outF (zeros 256) 256 b)) ∧ w.heap.size + 3 ≤ w1.heap.size ∧ Below w.heap.size w wr) (fun v _ => 300 - (intOf v).toNat)
   case atStart =>
    refine ⟨0, by omega, rfl, ?_, ?_, ?_, ?_, by omega, hb.alloc (by omega) _⟩
    ·rw [row?_alloc_past _ _ _ (by omega)]; exact I0.out
    ·rw [row?_alloc_past _ _ _ (by omega)]; exact I1.out
    ·rw [row?_alloc_past _ _ _ (by omega)]; exact I2.out
    ·rw [upto_zero _ _ _ (zeros_length _)]; simp [go_sem]
   case round =>
    obtain ⟨b, hb6, rfl, h0, h1, h2, h3, hw1, hb⟩ := hrel
    clear I0 I1 I2
    have I0 := Lib.hid h0
    have I1 := Lib.hid h1
    have I2 := Lib.hid h2
    have I3 := Lib.hid h3
    by_cases hlt : b < 256
    ·by_cases hb0 : b = 0
     ·subst hb0
      obtain ⟨iv, hiv⟩ : ∃ iv : UInt8, (0 : UInt8) = iv := ⟨_, rfl⟩
      have HV := Lib.hid (show outF 0 = affAt iv 5 by rw [← hiv]; rfl)
      clear h0 h1 h2 h3
      go_wp2_with fail
      rw [show Value.int .u8 0 = .int .u8 (n8 iv : Nat) by rw [← hiv]; rfl]
      push_cast
      go_loopw [8, 9] (fun s v wi => ∃ i : Nat, i ≤ 5 ∧ v = .int .i64 i ∧ s = .int .u8 (n8 (affAt iv i) : Nat) ∧ row? wi w.heap.size = some (bvs (zeros 256)) ∧ row? wi (w.heap.size + 1) = some (bvs (upto pw (zeros 256) 256 255)) ∧ row? wi (w.heap.size + 1 + 1) = some (bvs (lgL 255)) ∧ row? wi w1.heap.size = some (bvs (upto outF (zeros 256) 256 0)) ∧ Below w.heap.size w wi) (fun _ v _ => 16 - (intOf v).toNat)
      case atStart => exact ⟨0, by omega, rfl, rfl, I0.out, I1.out, I2.out, I3.out, hb⟩
      case round =>
       obtain ⟨i, hi, rfl, rfl, h0, h1, h2, h3, hb⟩ := hrel
       clear I0 I1 I2 I3
       have I0 := Lib.hid h0
       have I1 := Lib.hid h1
       have I2 := Lib.hid h2
       have I3 := Lib.hid h3
       by_cases hl5 : i < 5
       ·have h8' : (i : Int) ≤ 8 := by omega
        have h8n : ((8 : Int) - i).toNat = 8 - i := by omega
        have G := Lib.hid (show affAt iv (i + 1) = affAt iv i ^^^ (shl8 iv i ||| shr8 iv (8 - i)) from rfl)
        clear h0 h1 h2 h3
        go_wp2_with fail
        refine Rg.wp_region_plan (Rg.row [(0, 3), (1, 3), (2, 3), (3, 3), (4, 3), (5, 3), (6, 3), (7, 3), (8, 3), (9, 3), (10, 3)] []) [] (by kernel_rfl) (by kernel_rfl) ?_
        simp only [Rg.row, Rg.PT.map, List.map_nil, List.getD_cons_zero, List.getD_cons_succ]
        go_wp2_with (first
         |(with_reducible refine Rg.plan_pure ?_ ?_ ?_); kernel_rfl; kernel_rfl; intro _ _|(with_reducible refine Rg.plan_take ?_ ?_ ?_); kernel_rfl; kernel_rfl; intro _ _|(with_reducible refine Rg.plan_keep ?_ ?_); kernel_rfl; intro K hK|refine hK _ _ (Rg.Keep.refl _) ?_; clear hK|refine hK _ _ (Rg.Keep.of_below (by assumption)) ?_; clear hK|(with_reducible refine Rg.plan_skip ?_ ?_); kernel_rfl|(with_reducible refine Rg.plan_done ?_)|(with_reducible refine Rg.calm_normal ?_))
        go_roundw
        case rel => exact ⟨i + 1, by omega, by go_num, by rw [G.out], by rw [row?_drew]; exact I0.out, by rw [row?_drew]; exact I1.out, by rw [row?_drew]; exact I2.out, by rw [row?_drew]; exact I3.out, hb.drew⟩
        case measure => simp [intOf]; omega
       ·obtain rfl : i = 5 := by omega
        have g := upto_set outF (zeros 256) 256 0 (by omega)
        rw [show outF 0 = affAt iv 5 from HV.out] at g
        have G := Lib.hid g; clear g
        have c3 := row?_cell h3
        have f3 := row?_frozen h3
        clear h0 h1 h2 h3
        go_wp2_with fail
        go_roundw
        case rel =>
         refine ⟨0 + 1, by omega, rfl, ?_, ?_, ?_, ?_, hw1, hb.setCell (by first | omega | (simp; done) | (simp; omega)) _⟩
         ·rw [row?_setCell_ne _ _ _ _ (by first | omega | (simp; done) | (simp; omega))]; exact I0.out
         ·rw [row?_setCell_ne _ _ _ _ (by first | omega | (simp; done) | (simp; omega))]; exact I1.out
         ·rw [row?_setCell_ne _ _ _ _ (by first | omega | (simp; done) | (simp; omega))]; exact I2.out
         ·rw [row?_setCell_eq I3.out, bvs_setn]; exact congrArg (fun l => some (bvs l)) G.out
        case measure => simp [intOf]
     ·have hx := n8_lt (nth (lgL 255) b)
      have hm : (255 - n8 (nth (lgL 255) b)) % 255 < 255 := Nat.mod_lt _ (by omega)
      have up : nth (upto pw (zeros 256) 256 255) ((-((n8 (nth (lgL 255) b) : Nat) : Int)) % 255).toNat = pw ((255 - n8 (nth (lgL 255) b)) % 255) := by
       rw [show ((-((n8 (nth (lgL 255) b) : Nat) : Int)) % 255).toNat = (255 - n8 (nth (lgL 255) b)) % 255 by omega]; exact upto_lo (by omega) hm
      have HV0 : outF b = affAt (pw ((255 - n8 (nth (lgL 255) b)) % 255)) 5 := by unfold outF invOf; rw [if_neg hb0]
      generalize hiv : pw ((255 - n8 (nth (lgL 255) b)) % 255) = iv at HV0 up
      have HV := Lib.hid HV0; clear HV0
      have c1 := row?_cell h1
      have c2 := row?_cell h2
      clear h0 h1 h2 h3
      go_wp2_with fail
      push_cast
      go_loopw [8, 9] (fun s v wi => ∃ i : Nat, i ≤ 5 ∧ v = .int .i64 i ∧ s = .int .u8 (n8 (affAt iv i) : Nat) ∧ row? wi w.heap.size = some (bvs (zeros 256)) ∧ row? wi (w.heap.size + 1) = some (bvs (upto pw (zeros 256) 256 255)) ∧ row? wi (w.heap.size + 1 + 1) = some (bvs (lgL 255)) ∧ row? wi w1.heap.size = some (bvs (upto outF (zeros 256) 256 b)) ∧ Below w.heap.size w wi) (fun _ v _ => 16 - (intOf v).toNat)
      case atStart => exact ⟨0, by omega, rfl, rfl, I0.out, I1.out, I2.out, I3.out, hb⟩
      case round =>
       obtain ⟨i, hi, rfl, rfl, h0, h1, h2, h3, hb⟩ := hrel
       clear I0 I1 I2 I3
       have I0 := Lib.hid h0
       have I1 := Lib.hid h1
       have I2 := Lib.hid h2
       have I3 := Lib.hid h3
       by_cases hl5 : i < 5
       ·have h8' : (i : Int) ≤ 8 := by omega
        have h8n : ((8 : Int) - i).toNat = 8 - i := by omega
        have G := Lib.hid (show affAt iv (i + 1) = affAt iv i ^^^ (shl8 iv i ||| shr8 iv (8 - i)) from rfl)
        clear h0 h1 h2 h3
        go_wp2_with fail
        refine Rg.wp_region_plan (Rg.row [(0, 3), (1, 3), (2, 3), (3, 3), (4, 3), (5, 3), (6, 3), (7, 3), (8, 3), (9, 3), (10, 3)] []) [] (by kernel_rfl) (by kernel_rfl) ?_
        simp only [Rg.row, Rg.PT.map, List.map_nil, List.getD_cons_zero, List.getD_cons_succ]
        go_wp2_with (first
         |(with_reducible refine Rg.plan_pure ?_ ?_ ?_); kernel_rfl; kernel_rfl; intro _ _|(with_reducible refine Rg.plan_take ?_ ?_ ?_); kernel_rfl; kernel_rfl; intro _ _|(with_reducible refine Rg.plan_keep ?_ ?_); kernel_rfl; intro K hK|refine hK _ _ (Rg.Keep.refl _) ?_; clear hK|refine hK _ _ (Rg.Keep.of_below (by assumption)) ?_; clear hK|(with_reducible refine Rg.plan_skip ?_ ?_); kernel_rfl|(with_reducible refine Rg.plan_done ?_)|(with_reducible refine Rg.calm_normal ?_))
        go_roundw
        case rel => exact ⟨i + 1, by omega, by go_num, by rw [G.out], by rw [row?_drew]; exact I0.out, by rw [row?_drew]; exact I1.out, by rw [row?_drew]; exact I2.out, by rw [row?_drew]; exact I3.out, hb.drew⟩
        case measure => simp [intOf]; omega
       ·obtain rfl : i = 5 := by omega
        have g := upto_set outF (zeros 256) 256 b hlt
        rw [show outF b = affAt iv 5 from HV.out] at g
        have G := Lib.hid g; clear g
        have c3 := row?_cell h3
        have f3 := row?_frozen h3
        clear h0 h1 h2 h3
        go_wp2_with fail
        go_roundw
        case rel =>
         refine ⟨b + 1, by omega, by go_num, ?_, ?_, ?_, ?_, hw1, hb.setCell (by first | omega | (simp; done) | (simp; omega)) _⟩
         ·rw [row?_setCell_ne _ _ _ _ (by first | omega | (simp; done) | (simp; omega))]; exact I0.out
         ·rw [row?_setCell_ne _ _ _ _ (by first | omega | (simp; done) | (simp; omega))]; exact I1.out
         ·rw [row?_setCell_ne _ _ _ _ (by first | omega | (simp; done) | (simp; omega))]; exact I2.out
         ·rw [row?_setCell_eq I3.out, bvs_setn]; exact congrArg (fun l => some (bvs l)) G.out
        case measure => simp [intOf]; omega
    ·obtain rfl : b = 256 := by omega
     rw [out_tab] at h3
     have hbl := boxTab_length
     clear I0 I1 I2 I3
     go_wp2_with fail
     refine ret256 w.heap.size (bvs boxTab) rfl rfl rfl (row?_setRow_eq h0) (by rw [bvs_size]; exact hbl) ⟨rfl, ?_⟩
     exact below_setRow hb (by omega) _
end Go.Proofs.Ytjlpppnpdgenfaa

end
section
namespace Aes
open Go.Rw
def tOf (key : List UInt8) (m : Nat) : List UInt8 := [box (nth (rowKey key m) 13) ^^^ rcon m, box (nth (rowKey key m) 14), box (nth (rowKey key m) 15), box (nth (rowKey key m) 12)]
theorem tOf_length (key m) : (tOf key m).length = 4 := rfl
theorem tOf_get (key : List UInt8) (m i : Nat) (hi : i < 4) : keyF key ((m + 1) * 16 + i) = nth (rowKey key m) i ^^^ nth (tOf key m) i := by
 rw [show (m + 1) * 16 + i = 16 * (m + 1) + i by omega]
 by_cases h0 : i = 0
 ·subst h0; rw [Nat.add_zero, keyF_first, UInt8.xor_assoc]; rfl
 ·rw [keyF_lo key m i hi h0]
  rcases (by omega : i = 1 ∨ i = 2 ∨ i = 3) with rfl | rfl | rfl <;> rfl
theorem tOf_set (key : List UInt8) (m i : Nat) (hm : m < 10) (hi : i < 4) :
  (upto (keyF key) (zeros 176) 176 ((m + 1) * 16 + i)).set ((m + 1) * 16 + i) (nth (rowKey key m) i ^^^ nth (tOf key m) i) = upto (keyF key) (zeros 176) 176 ((m + 1) * 16 + (i + 1)) := by
 rw [← tOf_get key m i hi, upto_set _ _ _ _ (by omega)]; rfl
end Aes
namespace Go.Proofs.Ytjlpppnpdgenfaa
open Go.RowKit Go.Rw Aes
theorem Ag4 : Agg Try.prog 124 4 := ⟨⟨_, Try.underlying124, rfl⟩, by kernel_rfl⟩
theorem ld4 (x : Value) : Instr.loadAt 124 x = loadAgg 124 x := rfl
theorem st4 (x y : Value) : Instr.storeAt 124 x y = storeAgg 124 x y := rfl
theorem al4 : Instr.alloc 124 true (.tuple #[]) = allocAgg 124 := rfl
theorem rld4 (w : World) (b : Nat) (h : (row? w b).map (·.size) = some 4) : (loadAgg 124 (.pointer (some ⟨b, 0, none⟩))).run Try.prog w = .ok (.agg ((row? w b).getD #[])) w := load_rule Ag4 w b h
theorem rst4 (w : World) (b : Nat) (c' : Array Value) (h : (row? w b).map (·.size) = some 4) (hn : c'.size = 4) (h1 : allOne c' = true) : (storeAgg 124 (.pointer (some ⟨b, 0, none⟩)) (.agg c')).run Try.prog w = .ok () (w.setRow b c') := store_rule Ag4 w b c' h hn h1
theorem ral4 (w : World) : (allocAgg 124).run Try.prog w = .ok (.pointer (some ⟨w.heap.size, 0, none⟩)) (w.alloc (.cells (bvs (zeros 4)) 124)) := alloc_rule (n := 4) (by kernel_rfl) w
attribute [local go_sem ↓] ld16 st16 al16 ld176 st176 al176 ld256 st256 al256 ld4 st4 al4 shift_shl8 shift_shr8 bvs_getElem?
attribute [local go_sem] rst16p rld16p rld16 rst16 ral16 rld176 rst176 ral176 rld256 rst256 ral256 rld4 rst4 ral4 setRow_alloc_at setRow_alloc_past setRow_drew bvs_setn
set_option maxRecDepth 100000 in
set_option maxHeartbeats 1000000 in
theorem rkeys_any (key : List UInt8) (hk : key.length = 16) (w : World) :
  Calls Try.prog 76 #[.agg (bvs key)] w fun e w' => e = .returned (.agg (bvs (keys key))) ∧ Below w.heap.size w w' := by
 have hbl := boxTab_length
 go_enter Try.func76, Try.ntmps76
 go_wp2_with fail
 refine (rboxes_any _).mono ?_
 rintro e w1 ⟨rfl, hb1⟩
 have z1 := hb1.size
 simp at z1
 have r0 : row? w1 w.heap.size = some (bvs key) := by rw [row?_below hb1 (by first | omega | (simp; done) | (simp; omega))]; simp [go_sem]
 have r1 : row? w1 (w.heap.size + 1) = some (bvs (zeros 176)) := by rw [row?_below hb1 (by first | omega | (simp; done) | (simp; omega))]; simp [go_sem]
 have b1 : Below w.heap.size w w1 := (bel2a _ _ _).trans (hb1.mono (by first | omega | (simp; done) | (simp; omega)))
 clear hb1
 have l0 : w.heap.size < w1.heap.size := by omega
 have l1 : w.heap.size + 1 < w1.heap.size := by omega
 have l0' : w.heap.size < w1.heap.size + 1 := by omega
 have l1' : w.heap.size + 1 < w1.heap.size + 1 := by omega
 go_wp2_with fail
 go_loopw [5, 6] (fun r v wr => ∃ m : Nat, m ≤ 10 ∧ v = .int .i64 (m + 1 : Nat) ∧ r = .int .u8 (n8 (rcon m) : Nat) ∧ row? wr (w.heap.size + 1) = some (bvs (zeros 176)) ∧ row? wr w1.heap.size = some (bvs boxTab) ∧ row? wr (w1.heap.size + 1) = some (bvs (upto (keyF key) (zeros 176) 176 (16 * (m + 1)))) ∧ w1.heap.size + 2 ≤ wr.heap.size ∧ Below w.heap.size w wr) (fun _ v _ => 16 - (intOf v).toNat)
 case atStart =>
  refine ⟨0, by omega, rfl, rfl, ?_, ?_, ?_, by simp, ?_⟩
  ·rw [row?_alloc_past _ _ _ (by first | omega | (simp; done) | (simp; omega)), row?_alloc_past _ _ _ (by first | omega | (simp; done) | (simp; omega))]; exact r1
  ·rw [row?_alloc_past _ _ _ (by first | omega | (simp; done) | (simp; omega)), row?_alloc_at _ _ _ _ (by first | omega | (simp; done) | (simp; omega))]
  ·rw [row?_alloc_at _ _ _ _ (by first | omega | (simp; done) | (simp; omega))]
   exact congrArg (fun l => some (bvs l)) (keys_start key hk)
  ·exact (b1.alloc (by omega) _).alloc (by first | omega | (simp; done) | (simp; omega)) _
 case round =>
  obtain ⟨m, hm, rfl, rfl, h1, h3, h2, hwo, hb⟩ := hrel
  clear r0 r1 b1
  obtain ⟨wo, rfl⟩ : ∃ wo : World, wo = wr := ⟨_, rfl⟩
  by_cases hlt : m < 10
  ·have hp : (loadAgg 22 (.pointer (some ⟨w1.heap.size + 1, m * 16, none⟩))).run Try.prog wo = .ok (.agg (bvs (rowKey key m))) wo := by
    unfold loadAgg
    rw [run_loadAt_part Ag16 h2 (by rw [bvs_size, upto_length]; omega)]
    rw [bvs_mid _ _ _ m (by omega) (by omega) (rowKey key m) (rowKey_length key hk m) (fun i hi => keyF_at key m i hi)]
   have hl := rowKey_length key hk m
   have H1 := Lib.hid h1
   have H2 := Lib.hid h2
   have H3 := Lib.hid h3
   have c3 := row?_cell h3
   have q1 : w1.heap.size < wo.heap.size := by omega
   have q2 : w1.heap.size + 1 < wo.heap.size := by omega
   have x12 := n8_lt (nth (rowKey key m) 12)
   have x13 := n8_lt (nth (rowKey key m) 13)
   have x14 := n8_lt (nth (rowKey key m) 14)
   have x15 := n8_lt (nth (rowKey key m) 15)
   clear h1 h2 h3
   have hT : #[Value.int .u8 (n8 (box (nth (rowKey key m) 13) ^^^ rcon m) : Nat), Value.int .u8 (n8 (box (nth (rowKey key m) 14)) : Nat), Value.int .u8 (n8 (box (nth (rowKey key m) 15)) : Nat), Value.int .u8 (n8 (box (nth (rowKey key m) 12)) : Nat)] = bvs (tOf key m) := rfl
   have hTl := tOf_length key m
   have bx (b : UInt8) : nth boxTab (n8 b) = box b := rfl
   go_wp2_with fail
   refine Rg.wp_region_plan (Rg.row [(0, 3), (1, 0), (2, 3), (3, 0), (4, 3), (5, 3), (6, 3), (7, 0), (8, 3), (9, 0), (10, 3), (11, 0), (12, 3), (13, 0), (14, 3), (15, 0), (16, 3), (17, 0), (18, 3), (19, 1)] [20]) [20] (by kernel_rfl) (by kernel_rfl) ?_
   simp only [Rg.row, Rg.PT.map, List.map_cons, List.map_nil, List.getD_cons_zero, List.getD_cons_succ]
   go_wp2_with (first
    |(with_reducible refine Rg.plan_pure ?_ ?_ ?_); kernel_rfl; kernel_rfl; intro _ _|(with_reducible refine Rg.plan_take ?_ ?_ ?_); kernel_rfl; kernel_rfl; intro _ _|(with_reducible refine Rg.plan_keep ?_ ?_); kernel_rfl; intro K hK|refine hK _ _ (Rg.Keep.refl _) ?_; clear hK|refine hK _ _ (Rg.Keep.of_below (by assumption)) ?_; clear hK|(with_reducible refine Rg.plan_skip ?_ ?_); kernel_rfl|(with_reducible refine Rg.plan_done ?_)|(with_reducible refine Rg.calm_normal ?_))
   refine hK _ _ (Rg.Keep.of_below ((Below.refl _ _).alloc (Nat.le_refl _) _)) ?_
   clear hK
   go_wp2_with (first
    |(with_reducible refine Rg.plan_pure ?_ ?_ ?_); kernel_rfl; kernel_rfl; intro _ _|(with_reducible refine Rg.plan_take ?_ ?_ ?_); kernel_rfl; kernel_rfl; intro _ _|(with_reducible refine Rg.plan_keep ?_ ?_); kernel_rfl; intro K hK|refine hK _ _ (Rg.Keep.refl _) ?_; clear hK|refine hK _ _ (Rg.Keep.of_below (by assumption)) ?_; clear hK|(with_reducible refine Rg.plan_skip ?_ ?_); kernel_rfl|(with_reducible refine Rg.plan_done ?_)|(with_reducible refine Rg.calm_normal ?_))
   go_loopw [9] (fun v wi => ∃ i : Nat, i ≤ 16 ∧ v = .int .i64 i ∧ row? wi (w.heap.size + 1) = some (bvs (zeros 176)) ∧ row? wi w1.heap.size = some (bvs boxTab) ∧ row? wi (w1.heap.size + 1) = some (bvs (upto (keyF key) (zeros 176) 176 ((m + 1) * 16 + i))) ∧ row? wi wo.heap.size = some (bvs (rowKey key m)) ∧ row? wi (wo.heap.size + 1) = some (bvs (tOf key m)) ∧ Below w.heap.size w wi) (fun v _ => 16 - (intOf v).toNat)
   case atStart =>
    refine ⟨0, by omega, rfl, ?_, ?_, ?_, ?_, ?_, ?_⟩
    ·rw [row?_drew, row?_alloc_past _ _ _ (by first | omega | (simp; done) | (simp; omega)), row?_alloc_past _ _ _ (by first | omega | (simp; done) | (simp; omega))]; exact H1.out
    ·rw [row?_drew, row?_alloc_past _ _ _ (by first | omega | (simp; done) | (simp; omega)), row?_alloc_past _ _ _ (by first | omega | (simp; done) | (simp; omega))]; exact H3.out
    ·rw [row?_drew, row?_alloc_past _ _ _ (by first | omega | (simp; done) | (simp; omega)), row?_alloc_past _ _ _ (by first | omega | (simp; done) | (simp; omega)), H2.out, show 16 * (m + 1) = (m + 1) * 16 + 0 by omega]
    ·rw [row?_drew, row?_alloc_past _ _ _ (by first | omega | (simp; done) | (simp; omega)), row?_alloc_at _ _ _ _ (by first | omega | (simp; done) | (simp; omega))]
    ·rw [row?_drew, row?_alloc_at _ _ _ _ (by first | omega | (simp; done) | (simp; omega))]
    ·exact ((hb.alloc (by omega) _).alloc (by first | omega | (simp; done) | (simp; omega)) _).drew
   case round =>
    obtain ⟨i, hi, rfl, h1, h3, h2, h4, h5, hb⟩ := hrel
    clear c3
    have I1 := Lib.hid h1
    have I2 := Lib.hid h2
    have I3 := Lib.hid h3
    have I4 := Lib.hid h4
    have I5 := Lib.hid h5
    by_cases h16 : i < 16
    ·have c2 := row?_cell h2
     have f2 := row?_frozen h2
     have c4 := row?_cell h4
     have c5 := row?_cell h5
     clear h1 h2 h3 h4 h5
     by_cases h4i : i < 4
     ·have G := Lib.hid (tOf_set key m i hlt h4i)
      go_wp2_with fail
      refine Rg.wp_region_plan (Rg.row [(0, 3), (1, 3), (2, 3), (3, 3), (4, 0), (5, 3), (6, 3), (7, 0), (8, 3), (9, 3), (10, 3)] [11]) [11] (by kernel_rfl) (by kernel_rfl) ?_
      simp only [Rg.row, Rg.PT.map, List.map_cons, List.map_nil, List.getD_cons_zero, List.getD_cons_succ]
      go_wp2_with (first
       |(with_reducible refine Rg.plan_pure ?_ ?_ ?_); kernel_rfl; kernel_rfl; intro _ _|(with_reducible refine Rg.plan_take ?_ ?_ ?_); kernel_rfl; kernel_rfl; intro _ _|(with_reducible refine Rg.plan_keep ?_ ?_); kernel_rfl; intro K hK|refine hK _ _ (Rg.Keep.refl _) ?_; clear hK|refine hK _ _ (Rg.Keep.of_below (by assumption)) ?_; clear hK|(with_reducible refine Rg.plan_skip ?_ ?_); kernel_rfl|(with_reducible refine Rg.plan_done ?_)|(with_reducible refine Rg.calm_normal ?_))
      go_roundw
      case rel =>
       refine ⟨i + 1, by omega, by go_num, ?_, ?_, ?_, ?_, ?_, (hb.setCell (by first | omega | (simp; done) | (simp; omega)) _).drew⟩
       ·rw [row?_drew, row?_setCell_ne _ _ _ _ (by first | omega | (simp; done) | (simp; omega))]; exact I1.out
       ·rw [row?_drew, row?_setCell_ne _ _ _ _ (by first | omega | (simp; done) | (simp; omega))]; exact I3.out
       ·rw [row?_drew, row?_setCell_eq I2.out, bvs_setn]; exact congrArg (fun l => some (bvs l)) G.out
       ·rw [row?_drew, row?_setCell_ne _ _ _ _ (by first | omega | (simp; done) | (simp; omega))]; exact I4.out
       ·rw [row?_drew, row?_setCell_ne _ _ _ _ (by first | omega | (simp; done) | (simp; omega))]; exact I5.out
      case measure => simp [intOf]; omega
     ·have G := Lib.hid (keyF_set key m i hlt (by omega) h16)
      go_wp2_with fail
      refine Rg.wp_region_plan (Rg.row [(0, 3), (1, 3), (2, 3), (3, 3), (4, 0), (5, 3), (6, 3), (7, 3), (8, 3), (9, 3), (10, 0), (11, 3), (12, 3), (13, 3)] [14]) [14] (by kernel_rfl) (by kernel_rfl) ?_
      simp only [Rg.row, Rg.PT.map, List.map_cons, List.map_nil, List.getD_cons_zero, List.getD_cons_succ]
      go_wp2_with (first
       |(with_reducible refine Rg.plan_pure ?_ ?_ ?_); kernel_rfl; kernel_rfl; intro _ _|(with_reducible refine Rg.plan_take ?_ ?_ ?_); kernel_rfl; kernel_rfl; intro _ _|(with_reducible refine Rg.plan_keep ?_ ?_); kernel_rfl; intro K hK|refine hK _ _ (Rg.Keep.refl _) ?_; clear hK|refine hK _ _ (Rg.Keep.of_below (by assumption)) ?_; clear hK|(with_reducible refine Rg.plan_skip ?_ ?_); kernel_rfl|(with_reducible refine Rg.plan_done ?_)|(with_reducible refine Rg.calm_normal ?_))
      go_roundw
      case rel =>
       refine ⟨i + 1, by omega, by go_num, ?_, ?_, ?_, ?_, ?_, (hb.setCell (by first | omega | (simp; done) | (simp; omega)) _).drew⟩
       ·rw [row?_drew, row?_setCell_ne _ _ _ _ (by first | omega | (simp; done) | (simp; omega))]; exact I1.out
       ·rw [row?_drew, row?_setCell_ne _ _ _ _ (by first | omega | (simp; done) | (simp; omega))]; exact I3.out
       ·rw [row?_drew, row?_setCell_eq I2.out, bvs_setn]; exact congrArg (fun l => some (bvs l)) G.out
       ·rw [row?_drew, row?_setCell_ne _ _ _ _ (by first | omega | (simp; done) | (simp; omega))]; exact I4.out
       ·rw [row?_drew, row?_setCell_ne _ _ _ _ (by first | omega | (simp; done) | (simp; omega))]; exact I5.out
      case measure => simp [intOf]; omega
    ·obtain rfl : i = 16 := by omega
     have q4 := row?_lt h4
     clear h1 h2 h3 h4 h5
     go_wp2_with (go_at_call 89; refine (rdouble_any _ _).mono ?_; rintro e w' ⟨rfl, rfl⟩)
     go_roundw
     case rel => exact ⟨m + 1, by omega, by go_num, rfl, I1.out, I3.out, by rw [I2.out, show 16 * (m + 1 + 1) = (m + 1) * 16 + 16 by omega], by omega, hb⟩
     case measure => simp [intOf]; omega
  ·obtain rfl : m = 10 := by omega
   rw [show 16 * (10 + 1) = 176 by omega, upto_full] at h2
   have h2 : row? wo (w1.heap.size + 1) = some (bvs (keys key)) := h2
   have hkl := keys_length key
   go_wp2_with fail
   refine ret176 (w.heap.size + 1) (bvs (keys key)) rfl rfl rfl (row?_setRow_eq h1) (by rw [bvs_size]; exact keys_length _) ⟨rfl, ?_⟩
   exact below_setRow hb (by omega) _
end Go.Proofs.Ytjlpppnpdgenfaa

end
