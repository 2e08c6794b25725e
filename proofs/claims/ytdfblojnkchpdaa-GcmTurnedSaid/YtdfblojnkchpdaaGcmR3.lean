/- The walks of the document's counter and cipher. -/
import Derived.Test.YtdfblojnkchpdaaGcmR2
import Derived.Test.YtdfblojnkchpdaaAesR5
import Derived.Test.YtdfblojnkchpdaaGcmW3
namespace Go.Proofs.Ytdfblojnkchpdaa
open Go.RowKit Go.Rw Aes Gcm
attribute [local go_sem ↓] ld12 ld16 st16 al16 shift_shl8 shift_shr8 shift_shr32 bvs_getElem?
attribute [local go_sem] rld12 rld16 rst16 ral16 setRow_alloc_at setRow_alloc_past setRow_drew bvs_setn

set_option maxRecDepth 20000 in
set_option maxHeartbeats 1000000 in
theorem rcount_any (nonce : List UInt8) (n : Nat) (hn : nonce.length = 12) (h32 : n < 4294967296) (w : World) :
    Calls Try.prog 35 #[.agg (bvs nonce), .int .u32 (n : Nat)] w fun e w' => e = .returned (.agg (bvs (ctr nonce n))) ∧ Below w.heap.size w w' := by
  have hb0 := byte_low n h32
  have hlen : (nonce ++ zeros 4).length = 16 := by simp [hn, zeros]
  go_enter Try.func35, Try.ntmps35
  go_wp2_with fail
  have hcopy : (Builtin.copy_ #[24, 24] 3 #[.slice (some ⟨w.heap.size + 1 + 1, 0, none⟩) 16 16, .slice (some ⟨w.heap.size, 0, none⟩) 12 12]).run Try.prog (((w.alloc (.cells (bvs nonce) 23)).alloc (.cells (bvs (zeros 16)) 22)).alloc (.cells (bvs (zeros 16)) 22)).drew
      = .ok (.int .i64 12) (((w.alloc (.cells (bvs nonce) 23)).alloc (.cells (bvs (zeros 16)) 22)).alloc (.cells (bvs (nonce ++ zeros 4)) 22)).drew := by
    have h0 : row? (((w.alloc (.cells (bvs nonce) 23)).alloc (.cells (bvs (zeros 16)) 22)).alloc (.cells (bvs (zeros 16)) 22)).drew w.heap.size = some (bvs nonce) := by simp [go_sem]
    have h1 : row? (((w.alloc (.cells (bvs nonce) 23)).alloc (.cells (bvs (zeros 16)) 22)).alloc (.cells (bvs (zeros 16)) 22)).drew (w.heap.size + 1 + 1) = some (bvs (zeros 16)) := by simp [go_sem]
    have hs := Sl.row h0
    rw [hn] at hs
    rw [run_copy_sl (elem := 5) Try.underlying24 (by kernel_rfl) 16 16 h1 (zeros_length _) hs, hn]
    congr 1
    have e : nonce.take 16 ++ (zeros 16).drop 12 = nonce ++ zeros 4 := by rw [List.take_of_length_le (by omega), zeros_drop]
    rw [e]
    simp [setRow_drew, setRow_alloc_at]
  refine Rg.wp_region_plan (Rg.row [(0, 3), (1, 3)] [2]) [2] (by kernel_rfl) (by kernel_rfl) ?_
  simp only [Rg.row, Rg.PT.map, List.map_cons, List.map_nil, List.getD_cons_zero, List.getD_cons_succ]
  go_wp2_with (first
    | ((with_reducible refine Rg.plan_pure ?_ ?_ ?_); kernel_rfl; kernel_rfl; intro _ _)
    | ((with_reducible refine Rg.plan_take ?_ ?_ ?_); kernel_rfl; kernel_rfl; intro _ _)
    | ((with_reducible refine Rg.plan_keep ?_ ?_); kernel_rfl; intro K hK)
    | (refine hK _ _ (Rg.Keep.refl _) ?_; clear hK)
    | (refine hK _ _ (Rg.Keep.of_below (by assumption)) ?_; clear hK)
    | ((with_reducible refine Rg.plan_skip ?_ ?_); kernel_rfl)
    | (with_reducible refine Rg.plan_done ?_)
    | (with_reducible refine Rg.calm_normal ?_))
  have e : nonce ++ ((((zeros 4).set 0 (Go.Rw.byteOf n 24)).set 1 (Go.Rw.byteOf n 16)).set 2 (Go.Rw.byteOf n 8)).set 3 (Go.Rw.byteOf n 0) = ctr nonce n := by
    rw [← ctr_sets nonce n hn]; simp [List.set_append, hn]
  rw [e]
  exact ret16 (w.heap.size + 1) (bvs (ctr nonce n)) rfl rfl rfl (by simp [go_sem]) (by rw [bvs_size]; exact ctr_length _ _) ⟨rfl, (bel3 _ _ _ _).drew⟩

set_option maxRecDepth 20000 in
set_option maxHeartbeats 2000000 in
theorem turn_any (key nonce text : List UInt8) (hk : key.length = 16) (hn : nonce.length = 12) (ht : text.length ≤ 1000000) (v : Value) (B : Nat) (w : World) (hB : row? w B = some (bvs (cipher key))) (hs : Sl w v text) :
    Calls Try.prog 25 #[.pointer (some ⟨B, 0, none⟩), .agg (bvs nonce), v] w fun e w' =>
      ∃ g, e = .returned (.slice (some ⟨g, 0, none⟩) text.length text.length) ∧ w'.ownsRow w.heap.size 5 1 (.slice (some ⟨g, 0, none⟩) text.length text.length) text.length ((enc key nonce text).map bv) ∧ Below w.heap.size w w' := by
  have hS := hs
  obtain ⟨ao, cap, rfl, hc, hnn, hp⟩ := hS
  obtain ⟨i0, hi, hz0, hz1, hz2⟩ := info_parts info8
  have qB := row?_lt hB
  go_enter Try.func25, Try.ntmps25
  go_wp2_with (at_make; refine wpList_make_full _ rfl _ _ 24 rfl w.heap.size 5 i0 (.int .u8 0) 1 Try.underlying24 hi hz0 hz1 _ _ _ _ text.length rfl rfl rfl rfl ?b1 ?b2 ?b3 ?_)
  case b1 => rw [hz2]; omega
  case b2 => unfold maxLen; omega
  case b3 => simp
  intro w1 hown1 hgrow1
  rw [zeros_made] at hown1
  have z1 := hgrow1.size
  simp at z1
  have z2 := (hown1.lt _ rfl).2
  simp at z2
  have r0 : row? w1 w.heap.size = some (bvs nonce) := by rw [grown_row0 hgrow1 (by simp)]; simp [go_sem]
  have rB : row? w1 B = some (bvs (cipher key)) := by rw [grown_row0 hgrow1 (by simp; omega), row?_alloc_past _ _ _ qB]; exact hB
  have b1 : Below w.heap.size w w1 := ((Below.refl _ _).alloc (Nat.le_refl _) _).grown hgrow1 (by simp) (by simp)
  have hown2 : w1.ownsRow w.heap.size 5 1 (.slice (some ⟨w.heap.size + 1, 0, none⟩) text.length text.length) text.length ((upto (encF key nonce text) (List.replicate text.length 0) text.length 0).map bv) := by
    rw [upto_zero _ _ _ (by simp)]; simpa using hown1
  have R0 := Lib.hid r0
  have RB := Lib.hid rB
  have O1 := Lib.hid hown2
  clear hgrow1 r0 rB hown1 hown2
  go_wp2_with fail
  go_loopw [8] (fun v wr => ∃ q m, m = 16 * q ∧ v = .int .i64 (m : Nat) ∧ m < text.length + 16 ∧ wr.ownsRow w.heap.size 5 1 (.slice (some ⟨w.heap.size + 1, 0, none⟩) text.length text.length) text.length ((upto (encF key nonce text) (List.replicate text.length 0) text.length m).map bv)
      ∧ row? wr w.heap.size = some (bvs nonce) ∧ row? wr B = some (bvs (cipher key)) ∧ Below w.heap.size w wr) (fun v _ => text.length + 16 - (intOf v).toNat)
  case atStart => exact ⟨0, 0, rfl, rfl, by omega, O1.out, R0.out, RB.out, b1⟩
  case round =>
    obtain ⟨q, m, hm, rfl, hml, hown, h0, h1, hb⟩ := hrel
    have HM := Lib.hid hm
    have HO := Lib.hid hown
    clear hm hown
    by_cases hlt : m < text.length
    · obtain ⟨b, off, rfl, hcell⟩ := hp (by omega)
      have HC := Lib.hid hcell
      clear hcell
      go_wp2_with fail
      rw [show (2 : Int) + (m : Int) / 16 = ((q + 2 : Nat) : Int) by have := HM.out; omega]
      have hq32 : q + 2 < 4294967296 := by have := HM.out; omega
      refine (rcount_any nonce (q + 2) hn hq32 _).mono ?_
      rintro e wA ⟨rfl, hA⟩
      have qb := row?_lt h1
      have q0 := row?_lt h0
      have qo := (HO.out.lt _ rfl).2
      simp at qo
      have hB2 : row? wA B = some (bvs (cipher key)) := by rw [row?_below hA qb]; exact h1
      go_wp2_with fail
      refine (rcblock_any key (ctr nonce (q + 2)) hk (ctr_length _ _) B _ hB2).mono ?_
      rintro e wB ⟨rfl, hB'⟩
      have zA := hA.size
      have zB := hB'.size
      have hAB : Below wr.heap.size wr wB := hA.trans (hB'.mono zA)
      have G0 := Lib.hid (show row? wB w.heap.size = some (bvs nonce) by rw [row?_below hAB q0]; exact h0)
      have G1 := Lib.hid (show row? wB B = some (bvs (cipher key)) by rw [row?_below hAB qb]; exact h1)
      have GO := Lib.hid (own_same (w' := wB) HO.out (hAB.block _ qo))
      have gb : Below w.heap.size w wB := hb.trans (hAB.mono hb.size)
      have hFl : (block key (ctr nonce (q + 2))).length = 16 := block_length _ _
      have EF : Hid (∀ j, j < 16 → encF key nonce text (m + j) = nth text (m + j) ^^^ nth (block key (ctr nonce (q + 2))) j) := Lib.hid (fun j hj => by
        rw [encF_at, show (m + j) / 16 = q by have := HM.out; omega, show (m + j) % 16 = j by have := HM.out; omega])
      generalize block key (ctr nonce (q + 2)) = F at *
      clear hA hB' hAB h0 h1 hB2 HO
      go_wp2_with fail
      go_loopw [10] (fun v wr => ∃ j : Nat, j ≤ 16 ∧ m + j ≤ text.length ∧ v = .int .i64 j ∧ wr.ownsRow w.heap.size 5 1 (.slice (some ⟨w.heap.size + 1, 0, none⟩) text.length text.length) text.length ((upto (encF key nonce text) (List.replicate text.length 0) text.length (m + j)).map bv)
          ∧ row? wr w.heap.size = some (bvs nonce) ∧ row? wr B = some (bvs (cipher key)) ∧ row? wr wB.heap.size = some (bvs F) ∧ Below w.heap.size w wr) (fun v _ => 16 - (intOf v).toNat)
      case atStart => exact ⟨0, by omega, by omega, rfl, GO.out.alloc _, by rw [row?_alloc_past _ _ _ (by omega)]; exact G0.out, by rw [row?_alloc_past _ _ _ (by omega)]; exact G1.out, row?_alloc_at _ _ _ _ rfl, gb.alloc gb.size _⟩
      case round =>
        obtain ⟨j, hj, hjm, rfl, hown, h0, h1, h2, hbj⟩ := hrel
        by_cases hj16 : j < 16
        · by_cases hjp : m + j < text.length
          · have hck := below_cell hbj (HC.out (m + j) hjp) (cell_lt (HC.out (m + j) hjp))
            have cO : wr.cell? ⟨w.heap.size + 1, m + j, none⟩ = some (.int .u8 (n8 (nth (upto (encF key nonce text) (List.replicate text.length 0) text.length (m + j)) (m + j)) : Nat)) := by
              rw [hown.cellAt (m + j) (by omega), List.getElem?_map]
              have hl : m + j < (upto (encF key nonce text) (List.replicate text.length 0) text.length (m + j)).length := by rw [upto_length]; exact hjp
              rw [List.getElem?_eq_getElem hl]; simp [nth, hl, bv, n8]
            have fO := hown.frozenAt (m + j)
            have hst := hown.stored (m + j) (bv (encF key nonce text (m + j)))
            have eF := EF.out j hj16
            have eU := upto_set (encF key nonce text) (List.replicate text.length 0) text.length (m + j) hjp
            have hown2 : (wr.setCell ⟨w.heap.size + 1, m + j, none⟩ (.int .u8 (n8 (nth text (m + j) ^^^ nth F j) : Nat))).ownsRow w.heap.size 5 1 (.slice (some ⟨w.heap.size + 1, 0, none⟩) text.length text.length) text.length ((upto (encF key nonce text) (List.replicate text.length 0) text.length (m + j + 1)).map bv) := by
              have := hst.1
              rw [← List.map_set, eU, eF] at this
              exact this
            have HO2 := Lib.hid hown2
            have H0 := Lib.hid h0
            have H1 := Lib.hid h1
            have H2 := Lib.hid h2
            have c2 := row?_cell h2
            have hg2 := row?_lt h0
            clear hown hst eF eU hown2 h0 h1 h2
            go_wp2_with fail
            refine Rg.wp_region_plan (Rg.row [(0, 3), (1, 3), (2, 3), (3, 3), (4, 3), (5, 3), (6, 3), (7, 3), (8, 3), (9, 0), (10, 3), (11, 3), (12, 0), (13, 3), (14, 3)] [15]) [15] (by kernel_rfl) (by kernel_rfl) ?_
            simp only [Rg.row, Rg.PT.map, List.map_cons, List.map_nil, List.getD_cons_zero, List.getD_cons_succ]
            go_wp2_with (first
              | ((with_reducible refine Rg.plan_pure ?_ ?_ ?_); kernel_rfl; kernel_rfl; intro _ _)
              | ((with_reducible refine Rg.plan_take ?_ ?_ ?_); kernel_rfl; kernel_rfl; intro _ _)
              | ((with_reducible refine Rg.plan_keep ?_ ?_); kernel_rfl; intro K hK)
              | (refine hK _ _ (Rg.Keep.refl _) ?_; clear hK)
              | (refine hK _ _ (Rg.Keep.of_below (by assumption)) ?_; clear hK)
              | ((with_reducible refine Rg.plan_skip ?_ ?_); kernel_rfl)
              | (with_reducible refine Rg.plan_done ?_)
              | (with_reducible refine Rg.calm_normal ?_))
            go_roundw
            case rel =>
              refine ⟨j + 1, by omega, by omega, by go_num, HO2.out.drew, ?_, ?_, ?_, (hbj.setCell (by simp <;> omega) _).drew⟩
              · rw [row?_drew, row?_setCell_ne _ _ _ _ (by simp <;> omega)]; exact H0.out
              · rw [row?_drew, row?_setCell_ne _ _ _ _ (by simp <;> omega)]; exact H1.out
              · rw [row?_drew, row?_setCell_ne _ _ _ _ (by simp <;> omega)]; exact H2.out
            case measure => simp [intOf]; omega
          · have hml2 : m + j = text.length := by omega
            rw [upto_over _ _ _ (m + j) (by omega), ← upto_over (encF key nonce text) (List.replicate text.length 0) _ (m + 16) (by omega)] at hown
            clear hml2
            have HO := Lib.hid hown
            have H0 := Lib.hid h0
            have H1 := Lib.hid h1
            clear hown h0 h1 h2
            go_wp2_with fail
            go_roundw
            case rel => exact ⟨q + 1, m + 16, by have := HM.out; omega, by go_num, by omega, HO.out, H0.out, H1.out, hbj⟩
            case measure => simp [intOf]; omega
        · have hj2 : j = 16 := by omega
          subst hj2

          have HO := Lib.hid hown
          have H0 := Lib.hid h0
          have H1 := Lib.hid h1
          clear hown h0 h1 h2
          go_wp2_with fail
          go_roundw
          case rel => exact ⟨q + 1, m + 16, by have := HM.out; omega, by go_num, by omega, HO.out, H0.out, H1.out, hbj⟩
          case measure => simp [intOf]; omega
    · rw [upto_over _ _ _ _ (by omega)] at HO
      have he : (List.range text.length).map (encF key nonce text) = enc key nonce text := rfl
      rw [he] at HO
      go_wp2_with fail
      go_ret
      exact ⟨_, rfl, HO.out, hb⟩
end Go.Proofs.Ytdfblojnkchpdaa
