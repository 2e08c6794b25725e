/- The document's table of the box: what it computes. -/
import Derived.Test.YtdfblojnkchpdaaAesRT
import Derived.Test.YtdfblojnkchpdaaAesR1
namespace Aes
open Go.Rw
def outF (b : Nat) : UInt8 := affAt (invOf b) 5
theorem out_tab : upto outF (zeros 256) 256 256 = boxTab := by
  rw [upto_full]
  apply ext16 (n := 256) (by simp) boxTab_length
  intro i hi
  rw [← out_eq i hi]; simp [nth, hi, outF]
theorem byte_nat (k : Nat) (h : k < 256) : Go.Value.int .u8 (k : Int) = .int .u8 (n8 (UInt8.ofNat k) : Nat) := by rw [n8_ofNat _ h]
end Aes
namespace Go.Proofs.Ytdfblojnkchpdaa
open Go.RowKit Go.Rw Aes
theorem Ag256 : Agg Try.prog 60 256 := ⟨⟨_, Try.underlying60, rfl⟩, by kernel_rfl⟩
theorem ld256 (x : Value) : Instr.loadAt 60 x = loadAgg 60 x := rfl
theorem st256 (x y : Value) : Instr.storeAt 60 x y = storeAgg 60 x y := rfl
theorem al256 : Instr.alloc 60 true (.tuple #[]) = allocAgg 60 := rfl
theorem rld256 (w : World) (b : Nat) (h : (row? w b).map (·.size) = some 256) : (loadAgg 60 (.pointer (some ⟨b, 0, none⟩))).run Try.prog w = .ok (.agg ((row? w b).getD #[])) w := load_rule Ag256 w b h
theorem rst256 (w : World) (b : Nat) (c' : Array Value) (h : (row? w b).map (·.size) = some 256) (hn : c'.size = 256) (h1 : allOne c' = true) : (storeAgg 60 (.pointer (some ⟨b, 0, none⟩)) (.agg c')).run Try.prog w = .ok () (w.setRow b c') := store_rule Ag256 w b c' h hn h1
theorem ral256 (w : World) : (allocAgg 60).run Try.prog w = .ok (.pointer (some ⟨w.heap.size, 0, none⟩)) (w.alloc (.cells (bvs (zeros 256)) 60)) := alloc_rule (n := 256) (by kernel_rfl) w
theorem ret256 {fn : Func} {p : Tmp} {R : Ending → World → Prop} {a : Act} {w : World} (b : Nat) (c : Array Value) (hr : fn.results = #[.cell p 60]) (hp : a.tmps.getD p undef = .pointer (some ⟨b, 0, none⟩)) (hd : a.defers = [])
    (h : row? w b = some c) (hn : c.size = 256) (hR : R (.returned (.agg c)) w) : bodyPost Try.prog fn R .ret a w :=
  bodyPost_ret (results_row Ag256 hr _ _ b c hp h hn) hd hR
attribute [local go_sem ↓] ld16 st16 al16 ld176 st176 al176 ld256 st256 al256 shift_shl8 shift_shr8 bvs_getElem?
attribute [local go_sem] rst16p rld16p rld16 rst16 ral16 rld176 rst176 ral176 rld256 rst256 ral256 setRow_alloc_at setRow_alloc_past setRow_drew bvs_setn

set_option maxRecDepth 10000 in
set_option maxHeartbeats 1000000 in
theorem rboxes_any (w : World) :
    Calls Try.prog 33 #[] w fun e w' => e = .returned (.agg (bvs boxTab)) ∧ Below w.heap.size w w' := by
  go_enter Try.func33, Try.ntmps33
  go_wp2_with fail
  go_loopw [3, 4] (fun x v wr => ∃ i : Nat, i ≤ 255 ∧ v = .int .i64 i ∧ x = .int .u8 (n8 (pw i) : Nat) ∧ row? wr w.heap.size = some (bvs (zeros 256)) ∧ row? wr (w.heap.size + 1) = some (bvs (upto pw (zeros 256) 256 i)) ∧ row? wr (w.heap.size + 1 + 1) = some (bvs (lgL i)) ∧ Below w.heap.size w wr) (fun _ v _ => 300 - (intOf v).toNat)
  case atStart => exact ⟨0, by omega, rfl, rfl, by simp [go_sem], by rw [upto_zero _ _ _ (zeros_length _)]; simp [go_sem], by simp [go_sem]; rfl, (bel2 _ _ _).alloc (by first | omega | (simp; done) | (simp; omega)) _⟩
  case round =>
    obtain ⟨i, hi, rfl, rfl, h0, h1, h2, hb⟩ := hrel
    by_cases hlt : i < 255
    · have g := upto_set pw (zeros 256) 256 i (by omega)
      have hx := n8_lt (pw i)
      have hll := lgL_length i
      have G := Lib.hid g; clear g
      have G2 := Lib.hid (show lgL (i + 1) = (lgL i).set (n8 (pw i)) (UInt8.ofNat i) from rfl)
      have G3 := Lib.hid (show pw (i + 1) = pw i ^^^ double (pw i) from rfl)
      have I0 := Lib.hid h0
      have I1 := Lib.hid h1
      have I2 := Lib.hid h2
      have c1 := row?_cell h1
      have c2 := row?_cell h2
      have f1 := row?_frozen h1
      have f2 := row?_frozen h2
      clear h0 h1 h2
      go_wp2_with (go_at_call 40; refine (rdouble_any _ _).mono ?_; rintro e w' ⟨rfl, rfl⟩)
      go_roundw
      case rel =>
        refine ⟨i + 1, by omega, by go_num, by rw [G3.out], ?_, ?_, ?_, (hb.setCell (by first | omega | (simp; done) | (simp; omega)) _).setCell (by first | omega | (simp; done) | (simp; omega)) _⟩
        · rw [row?_setCell_ne _ _ _ _ (by first | omega | (simp; done) | (simp; omega)), row?_setCell_ne _ _ _ _ (by first | omega | (simp; done) | (simp; omega))]; exact I0.out
        · rw [row?_setCell_ne _ _ _ _ (by first | omega | (simp; done) | (simp; omega)), row?_setCell_eq I1.out, bvs_setn]; exact congrArg (fun l => some (bvs l)) G.out
        · rw [row?_setCell_eq (by rw [row?_setCell_ne _ _ _ _ (by first | omega | (simp; done) | (simp; omega))]; exact I2.out), byte_nat i (by omega), bvs_setn, G2.out]
      case measure => simp [intOf]; omega
    · obtain rfl : i = 255 := by omega
      have I0 := Lib.hid h0
      have I1 := Lib.hid h1
      have I2 := Lib.hid h2
      have q2 := row?_lt h2
      clear h0 h1 h2
      obtain ⟨w1, rfl⟩ : ∃ w1 : World, w1 = wr := ⟨_, rfl⟩
      have hll := lgL_length 255
      go_wp2_with fail
      push_cast
      go_loopw [6] (fun v wr => ∃ b : Nat, b ≤ 256 ∧ v = .int .i64 b ∧ row? wr w.heap.size = some (bvs (zeros 256)) ∧ row? wr (w.heap.size + 1) = some (bvs (upto pw (zeros 256) 256 255)) ∧ row? wr (w.heap.size + 1 + 1) = some (bvs (lgL 255)) ∧ row? wr w1.heap.size = some (bvs (upto outF (zeros 256) 256 b)) ∧ w.heap.size + 3 ≤ w1.heap.size ∧ Below w.heap.size w wr) (fun v _ => 300 - (intOf v).toNat)
      case atStart =>
        refine ⟨0, by omega, rfl, ?_, ?_, ?_, ?_, by omega, hb.alloc (by omega) _⟩
        · rw [row?_alloc_past _ _ _ (by omega)]; exact I0.out
        · rw [row?_alloc_past _ _ _ (by omega)]; exact I1.out
        · rw [row?_alloc_past _ _ _ (by omega)]; exact I2.out
        · rw [upto_zero _ _ _ (zeros_length _)]; simp [go_sem]
      case round =>
        obtain ⟨b, hb6, rfl, h0, h1, h2, h3, hw1, hb⟩ := hrel
        clear I0 I1 I2
        have I0 := Lib.hid h0
        have I1 := Lib.hid h1
        have I2 := Lib.hid h2
        have I3 := Lib.hid h3
        by_cases hlt : b < 256
        · by_cases hb0 : b = 0
          · subst hb0
            obtain ⟨iv, hiv⟩ : ∃ iv : UInt8, (0 : UInt8) = iv := ⟨_, rfl⟩
            have HV := Lib.hid (show outF 0 = affAt iv 5 by rw [← hiv]; rfl)
            clear h0 h1 h2 h3
            go_wp2_with fail
            rw [show Value.int .u8 0 = .int .u8 (n8 iv : Nat) by rw [← hiv]; rfl]
            push_cast
            go_loopw [8, 9] (fun s v wi => ∃ i : Nat, i ≤ 5 ∧ v = .int .i64 i ∧ s = .int .u8 (n8 (affAt iv i) : Nat) ∧ row? wi w.heap.size = some (bvs (zeros 256)) ∧ row? wi (w.heap.size + 1) = some (bvs (upto pw (zeros 256) 256 255)) ∧ row? wi (w.heap.size + 1 + 1) = some (bvs (lgL 255)) ∧ row? wi w1.heap.size = some (bvs (upto outF (zeros 256) 256 0)) ∧ Below w.heap.size w wi) (fun _ v _ => 16 - (intOf v).toNat)
            case atStart => exact ⟨0, by omega, rfl, rfl, I0.out, I1.out, I2.out, I3.out, hb⟩
            case round =>
              obtain ⟨i, hi, rfl, rfl, h0, h1, h2, h3, hb⟩ := hrel
              clear I0 I1 I2 I3
              have I0 := Lib.hid h0
              have I1 := Lib.hid h1
              have I2 := Lib.hid h2
              have I3 := Lib.hid h3
              by_cases hl5 : i < 5
              · have h8' : (i : Int) ≤ 8 := by omega
                have h8n : ((8 : Int) - i).toNat = 8 - i := by omega
                have G := Lib.hid (show affAt iv (i + 1) = affAt iv i ^^^ (shl8 iv i ||| shr8 iv (8 - i)) from rfl)
                clear h0 h1 h2 h3
                go_wp2_with fail
                refine Rg.wp_region_plan (Rg.row [(0, 3), (1, 3), (2, 3), (3, 3), (4, 3), (5, 3), (6, 3), (7, 3), (8, 3), (9, 3), (10, 3)] []) [] (by kernel_rfl) (by kernel_rfl) ?_
                simp only [Rg.row, Rg.PT.map, List.map_nil, List.getD_cons_zero, List.getD_cons_succ]
                go_wp2_with (first
                  | ((with_reducible refine Rg.plan_pure ?_ ?_ ?_); kernel_rfl; kernel_rfl; intro _ _)
                  | ((with_reducible refine Rg.plan_take ?_ ?_ ?_); kernel_rfl; kernel_rfl; intro _ _)
                  | ((with_reducible refine Rg.plan_keep ?_ ?_); kernel_rfl; intro K hK)
                  | (refine hK _ _ (Rg.Keep.refl _) ?_; clear hK)
                  | (refine hK _ _ (Rg.Keep.of_below (by assumption)) ?_; clear hK)
                  | ((with_reducible refine Rg.plan_skip ?_ ?_); kernel_rfl)
                  | (with_reducible refine Rg.plan_done ?_)
                  | (with_reducible refine Rg.calm_normal ?_))
                go_roundw
                case rel => exact ⟨i + 1, by omega, by go_num, by rw [G.out], by rw [row?_drew]; exact I0.out, by rw [row?_drew]; exact I1.out, by rw [row?_drew]; exact I2.out, by rw [row?_drew]; exact I3.out, hb.drew⟩
                case measure => simp [intOf]; omega
              · obtain rfl : i = 5 := by omega
                have g := upto_set outF (zeros 256) 256 0 (by omega)
                rw [show outF 0 = affAt iv 5 from HV.out] at g
                have G := Lib.hid g; clear g
                have c3 := row?_cell h3
                have f3 := row?_frozen h3
                clear h0 h1 h2 h3
                go_wp2_with fail
                go_roundw
                case rel =>
                  refine ⟨0 + 1, by omega, rfl, ?_, ?_, ?_, ?_, hw1, hb.setCell (by first | omega | (simp; done) | (simp; omega)) _⟩
                  · rw [row?_setCell_ne _ _ _ _ (by first | omega | (simp; done) | (simp; omega))]; exact I0.out
                  · rw [row?_setCell_ne _ _ _ _ (by first | omega | (simp; done) | (simp; omega))]; exact I1.out
                  · rw [row?_setCell_ne _ _ _ _ (by first | omega | (simp; done) | (simp; omega))]; exact I2.out
                  · rw [row?_setCell_eq I3.out, bvs_setn]; exact congrArg (fun l => some (bvs l)) G.out
                case measure => simp [intOf]
          · have hx := n8_lt (nth (lgL 255) b)
            have hm : (255 - n8 (nth (lgL 255) b)) % 255 < 255 := Nat.mod_lt _ (by omega)
            have up : nth (upto pw (zeros 256) 256 255) ((-((n8 (nth (lgL 255) b) : Nat) : Int)) % 255).toNat = pw ((255 - n8 (nth (lgL 255) b)) % 255) := by
              rw [show ((-((n8 (nth (lgL 255) b) : Nat) : Int)) % 255).toNat = (255 - n8 (nth (lgL 255) b)) % 255 by omega]; exact upto_lo (by omega) hm
            have HV0 : outF b = affAt (pw ((255 - n8 (nth (lgL 255) b)) % 255)) 5 := by unfold outF invOf; rw [if_neg hb0]
            generalize hiv : pw ((255 - n8 (nth (lgL 255) b)) % 255) = iv at HV0 up
            have HV := Lib.hid HV0; clear HV0
            have c1 := row?_cell h1
            have c2 := row?_cell h2
            clear h0 h1 h2 h3
            go_wp2_with fail
            push_cast
            go_loopw [8, 9] (fun s v wi => ∃ i : Nat, i ≤ 5 ∧ v = .int .i64 i ∧ s = .int .u8 (n8 (affAt iv i) : Nat) ∧ row? wi w.heap.size = some (bvs (zeros 256)) ∧ row? wi (w.heap.size + 1) = some (bvs (upto pw (zeros 256) 256 255)) ∧ row? wi (w.heap.size + 1 + 1) = some (bvs (lgL 255)) ∧ row? wi w1.heap.size = some (bvs (upto outF (zeros 256) 256 b)) ∧ Below w.heap.size w wi) (fun _ v _ => 16 - (intOf v).toNat)
            case atStart => exact ⟨0, by omega, rfl, rfl, I0.out, I1.out, I2.out, I3.out, hb⟩
            case round =>
              obtain ⟨i, hi, rfl, rfl, h0, h1, h2, h3, hb⟩ := hrel
              clear I0 I1 I2 I3
              have I0 := Lib.hid h0
              have I1 := Lib.hid h1
              have I2 := Lib.hid h2
              have I3 := Lib.hid h3
              by_cases hl5 : i < 5
              · have h8' : (i : Int) ≤ 8 := by omega
                have h8n : ((8 : Int) - i).toNat = 8 - i := by omega
                have G := Lib.hid (show affAt iv (i + 1) = affAt iv i ^^^ (shl8 iv i ||| shr8 iv (8 - i)) from rfl)
                clear h0 h1 h2 h3
                go_wp2_with fail
                refine Rg.wp_region_plan (Rg.row [(0, 3), (1, 3), (2, 3), (3, 3), (4, 3), (5, 3), (6, 3), (7, 3), (8, 3), (9, 3), (10, 3)] []) [] (by kernel_rfl) (by kernel_rfl) ?_
                simp only [Rg.row, Rg.PT.map, List.map_nil, List.getD_cons_zero, List.getD_cons_succ]
                go_wp2_with (first
                  | ((with_reducible refine Rg.plan_pure ?_ ?_ ?_); kernel_rfl; kernel_rfl; intro _ _)
                  | ((with_reducible refine Rg.plan_take ?_ ?_ ?_); kernel_rfl; kernel_rfl; intro _ _)
                  | ((with_reducible refine Rg.plan_keep ?_ ?_); kernel_rfl; intro K hK)
                  | (refine hK _ _ (Rg.Keep.refl _) ?_; clear hK)
                  | (refine hK _ _ (Rg.Keep.of_below (by assumption)) ?_; clear hK)
                  | ((with_reducible refine Rg.plan_skip ?_ ?_); kernel_rfl)
                  | (with_reducible refine Rg.plan_done ?_)
                  | (with_reducible refine Rg.calm_normal ?_))
                go_roundw
                case rel => exact ⟨i + 1, by omega, by go_num, by rw [G.out], by rw [row?_drew]; exact I0.out, by rw [row?_drew]; exact I1.out, by rw [row?_drew]; exact I2.out, by rw [row?_drew]; exact I3.out, hb.drew⟩
                case measure => simp [intOf]; omega
              · obtain rfl : i = 5 := by omega
                have g := upto_set outF (zeros 256) 256 b hlt
                rw [show outF b = affAt iv 5 from HV.out] at g
                have G := Lib.hid g; clear g
                have c3 := row?_cell h3
                have f3 := row?_frozen h3
                clear h0 h1 h2 h3
                go_wp2_with fail
                go_roundw
                case rel =>
                  refine ⟨b + 1, by omega, by go_num, ?_, ?_, ?_, ?_, hw1, hb.setCell (by first | omega | (simp; done) | (simp; omega)) _⟩
                  · rw [row?_setCell_ne _ _ _ _ (by first | omega | (simp; done) | (simp; omega))]; exact I0.out
                  · rw [row?_setCell_ne _ _ _ _ (by first | omega | (simp; done) | (simp; omega))]; exact I1.out
                  · rw [row?_setCell_ne _ _ _ _ (by first | omega | (simp; done) | (simp; omega))]; exact I2.out
                  · rw [row?_setCell_eq I3.out, bvs_setn]; exact congrArg (fun l => some (bvs l)) G.out
                case measure => simp [intOf]; omega
        · obtain rfl : b = 256 := by omega
          rw [out_tab] at h3
          have hbl := boxTab_length
          clear I0 I1 I2 I3
          go_wp2_with fail
          refine ret256 w.heap.size (bvs boxTab) rfl rfl rfl (row?_setRow_eq h0) (by rw [bvs_size]; exact hbl) ⟨rfl, ?_⟩
          exact below_setRow hb (by omega) _
end Go.Proofs.Ytdfblojnkchpdaa
