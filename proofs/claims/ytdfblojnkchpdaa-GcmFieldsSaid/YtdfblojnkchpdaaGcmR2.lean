/- The walk of the document's hash. -/
import Derived.Test.YtdfblojnkchpdaaGcmR1
import Derived.Test.YtdfblojnkchpdaaGcmT
import Derived.Test.YtdfblojnkchpdaaLibS
namespace Go.Proofs.Ytdfblojnkchpdaa
open Go.RowKit Go.Rw Aes Gcm
attribute [local go_sem ↓] ld16 st16 al16 shift_shl8 shift_shr8 bvs_getElem?
attribute [local go_sem] rld16 rst16 ral16 setRow_alloc_at setRow_alloc_past setRow_drew bvs_setn

/-- A block crossed with what is there of a part. -/
def mixF (z p : List UInt8) (k i : Nat) : UInt8 := nth z i ^^^ nth p (k + i)
theorem mix_end (z p : List UInt8) (k j : Nat) (hz : z.length = 16) (hj : 16 ≤ j ∨ p.length ≤ k + j) : upto (mixF z p k) z 16 j = row16 (mixF z p k) := by
  apply ext16 (n := 16) (upto_length ..) (row16_length _)
  intro i hi
  rw [upto_get hi, row16_get hi]
  split
  · rfl
  · rename_i h
    have : nth p (k + i) = 0 := by unfold nth; rw [List.getElem?_eq_none (by omega)]; rfl
    rw [mixF, this, UInt8.xor_zero]
theorem mix_add (z p : List UInt8) (q : Nat) : row16 (mixF z p (16 * q)) = add z (padAt p q) := by
  apply ext16 (n := 16) (row16_length _) (add_length _ _)
  intro i hi
  rw [row16_get hi]
  show _ = nth (row16 (addF z (padAt p q))) i
  rw [row16_get hi, addF, padAt_get hi]; rfl
theorem hash_step (h : List UInt8) (hh : h.length = 16) (Y : Wd) (p : List UInt8) (q : Nat) : rtimes (add (blk Y) (padAt p q)) h = blk (timesW (wxor Y (wof (padAt p q))) (wof h)) := by
  rw [rtimes_eq _ _ hh, Gcm.times, wof_add, wof_blk]
theorem part_step (key Y : Wd) (p : List UInt8) (q : Nat) (h : 16 * q < p.length) : hashPart key Y (p.drop (16 * q)) = hashPart key (timesW (wxor Y (wof (padAt p q))) key) (p.drop (16 * (q + 1))) := by
  rw [hashPart_step _ _ _ (by rw [List.length_drop]; omega), List.drop_drop, show 16 * q + 16 = 16 * (q + 1) by omega]
  congr 4
  apply ext16 (n := 16) (padAt_length _ _) (padAt_length _ _)
  intro j hj
  rw [padAt_get hj, padAt_get hj, nth_drop]; congr 1; omega

set_option maxRecDepth 20000 in
set_option maxHeartbeats 4000000 in
theorem rhash_any (h : List UInt8) (hh : h.length = 16) (ps : List (List UInt8)) (hps : ps.length ≤ 1000000) (hpl : ∀ p ∈ ps, p.length ≤ 1000000) (v : Value) (w : World) (hP : Pts w v ps) :
    Calls Try.prog 21 #[.agg (bvs h), v] w fun e w' => e = .returned (.agg (bvs (Gcm.hash h ps))) ∧ Below w.heap.size w w' := by
  obtain ⟨ao, cap, rfl, hp⟩ := hP
  go_enter Try.func21, Try.ntmps21
  go_wp2_with fail
  go_loopw [6] (fun v wr => ∃ k : Nat, k ≤ ps.length ∧ v = .int .i64 k ∧ row? wr w.heap.size = some (bvs h) ∧ row? wr (w.heap.size + 1) = some (bvs (zeros 16)) ∧ row? wr (w.heap.size + 2) = some (bvs (blk (hashParts (wof h) (ps.take k)))) ∧ Below w.heap.size w wr) (fun v _ => ps.length - (intOf v).toNat)
  case atStart => exact ⟨0, by omega, rfl, by simp [go_sem], by simp [go_sem], by rw [List.take_zero, show hashParts (wof h) [] = (0, 0) from rfl, blk_zero]; simp [go_sem], ((bel2 _ _ _).alloc (by simp; omega) _)⟩
  case round =>
    obtain ⟨k, hk, rfl, h0, h1, h2, hb⟩ := hrel
    by_cases hlt : k < ps.length
    · obtain ⟨b, off, rfl, hc⟩ := hp (by omega)
      obtain ⟨u, hu, hs⟩ := hc k hlt
      have E := Lib.hid (hashParts_step (wof h) ps k hlt)
      have hpk : (ps.getD k []).length ≤ 1000000 := hpl _ (by rw [List.getD_eq_getElem?_getD, List.getElem?_eq_getElem hlt]; exact List.getElem_mem hlt)
      generalize hashParts (wof h) (ps.take k) = y0 at h2 E
      generalize ps.getD k [] = p at hs E hpk
      obtain ⟨aop, capp, rfl, hcp, hnp, hpp⟩ := hs
      have H0 := Lib.hid h0
      have H1 := Lib.hid h1
      have H2 := Lib.hid h2
      have HU := Lib.hid hu
      have HC := Lib.hid hc
      clear hu hc h0 h1 h2
      go_wp2_with fail
      go_loopw [7] (fun v wr => ∃ q m Y, m = 16 * q ∧ v = .int .i64 (m : Nat) ∧ m < p.length + 16 ∧ row? wr w.heap.size = some (bvs h) ∧ row? wr (w.heap.size + 1) = some (bvs (zeros 16)) ∧ row? wr (w.heap.size + 2) = some (bvs (blk Y)) ∧ hashPart (wof h) Y (p.drop (16 * q)) = hashPart (wof h) y0 p ∧ Below w.heap.size w wr) (fun v _ => p.length + 16 - (intOf v).toNat)
      case atStart => exact ⟨0, 0, y0, rfl, rfl, by omega, H0.out, H1.out, H2.out, rfl, hb⟩
      case round =>
        obtain ⟨q, m, Y, hm, rfl, hq, h0, h1, h2, he, hbq⟩ := hrel
        have HM := Lib.hid hm
        have HE := Lib.hid he
        have G0 := Lib.hid h0
        have G1 := Lib.hid h1
        have G2 := Lib.hid h2
        clear he h0 h1 h2 H0 H1 H2
        have hcell := below_cell hbq HU.out (cell_lt HU.out)
        by_cases hq2 : m < p.length
        · have PS := Lib.hid (part_step (wof h) Y p q (by omega))
          obtain ⟨bp, offp, rfl, hcc⟩ := hpp (by omega)
          have HCC := Lib.hid hcc
          clear hm hcc
          go_wp2_with fail
          go_loopw [8] (fun v wr => ∃ j : Nat, j ≤ 16 ∧ m + j ≤ p.length ∧ v = .int .i64 j ∧ row? wr w.heap.size = some (bvs h) ∧ row? wr (w.heap.size + 1) = some (bvs (zeros 16)) ∧ row? wr (w.heap.size + 2) = some (bvs (upto (mixF (blk Y) p m) (blk Y) 16 j)) ∧ Below w.heap.size w wr) (fun v _ => 16 - (intOf v).toNat)
          case atStart => exact ⟨0, by omega, by omega, rfl, G0.out, G1.out, by rw [upto_zero _ _ _ (blk_length _)]; exact G2.out, hbq⟩
          case round =>
            obtain ⟨j, hj, hjm, rfl, h0, h1, h2, hbj⟩ := hrel
            clear hcell
            have hcell := below_cell hbj HU.out (cell_lt HU.out)
            by_cases hj16 : j < 16
            · by_cases hjp : m + j < p.length
              · have g := upto_set (mixF (blk Y) p m) (blk Y) 16 j hj16
                have ghi := upto_hi (f := mixF (blk Y) p m) (z := blk Y) hj16 (Nat.le_refl j)
                have G := Lib.hid g; clear g
                have hck := below_cell hbj (HCC.out (m + j) hjp) (cell_lt (HCC.out (m + j) hjp))
                have H0 := Lib.hid h0
                have H1 := Lib.hid h1
                have H2 := Lib.hid h2
                have c2 := row?_cell h2
                have f2 := row?_frozen h2
                clear h0 h1 h2
                go_wp2_with fail
                refine Rg.wp_region_plan (Rg.row [(0, 3), (1, 3), (2, 3), (3, 0), (4, 3), (5, 3), (6, 3), (7, 0), (8, 3), (9, 3), (10, 3), (11, 3), (12, 0), (13, 3), (14, 3)] [15]) [15] (by kernel_rfl) (by kernel_rfl) ?_
                simp only [Rg.row, Rg.PT.map, List.map_cons, List.map_nil, List.getD_cons_zero, List.getD_cons_succ]
                go_wp2_with (first
                  | ((with_reducible refine Rg.plan_pure ?_ ?_ ?_); kernel_rfl; kernel_rfl; intro _ _)
                  | ((with_reducible refine Rg.plan_take ?_ ?_ ?_); kernel_rfl; kernel_rfl; intro _ _)
                  | ((with_reducible refine Rg.plan_keep ?_ ?_); kernel_rfl; intro K hK)
                  | (refine hK _ _ (Rg.Keep.refl _) ?_; clear hK)
                  | (refine hK _ _ (Rg.Keep.of_below (by assumption)) ?_; clear hK)
                  | ((with_reducible refine Rg.plan_skip ?_ ?_); kernel_rfl)
                  | (with_reducible refine Rg.plan_done ?_)
                  | (with_reducible refine Rg.calm_normal ?_))
                go_roundw
                case rel =>
                  refine ⟨j + 1, by omega, by omega, by go_num, ?_, ?_, ?_, (hbj.setCell (by simp <;> omega) _).drew⟩
                  · rw [row?_drew, row?_setCell_ne _ _ _ _ (by simp <;> omega)]; exact H0.out
                  · rw [row?_drew, row?_setCell_ne _ _ _ _ (by simp <;> omega)]; exact H1.out
                  · rw [row?_drew, row?_setCell_eq H2.out, bvs_setn]; exact congrArg (fun l => some (bvs l)) G.out
                case measure => simp [intOf]; omega
              · have HX := Lib.hid hjp
                have HY := Lib.hid hj16
                rw [mix_end _ _ _ _ (blk_length _) (by omega)] at h2
                have hmx : row16 (mixF (blk Y) p m) = add (blk Y) (padAt p q) := by rw [HM.out]; exact mix_add _ _ _
                rw [hmx] at h2
                have H0 := Lib.hid h0
                have H1 := Lib.hid h1
                clear h1 HX HY
                go_wp2_with fail
                refine (rtimes_any (add (blk Y) (padAt p q)) h (add_length _ _) hh _).mono ?_
                rintro e wA ⟨rfl, hA⟩
                have q2 := row?_lt h2
                have g0 : row? wA w.heap.size = some (bvs h) := by rw [row?_below hA (by omega)]; exact H0.out
                have g1 : row? wA (w.heap.size + 1) = some (bvs (zeros 16)) := by rw [row?_below hA (by omega)]; exact H1.out
                have g2 : row? wA (w.heap.size + 2) = some (bvs (add (blk Y) (padAt p q))) := by rw [row?_below hA q2]; exact h2
                have gb : Below w.heap.size w wA := hbj.trans (hA.mono hbj.size)
                have hst := hash_step h hh Y p q
                have hln : (rtimes (add (blk Y) (padAt p q)) h).length = 16 := by rw [hst]; exact blk_length _
                have G0 := Lib.hid g0
                have G1 := Lib.hid g1
                have ST := Lib.hid hst
                clear h0 h2 hA g0 g1 hst
                go_wp2_with fail
                go_roundw
                case rel =>
                  refine ⟨q + 1, m + 16, timesW (wxor Y (wof (padAt p q))) (wof h), by have := HM.out; omega, by go_num, by have := HM.out; omega, ?_, ?_, ?_, ?_, below_setRow gb (by omega) _⟩
                  · rw [row?_setRow_ne _ _ _ _ (by omega)]; exact G0.out
                  · rw [row?_setRow_ne _ _ _ _ (by omega)]; exact G1.out
                  · rw [← ST.out]; exact row?_setRow_eq g2
                  · rw [← PS.out]; exact HE.out
                case measure => simp [intOf]; omega
            · have HX := Lib.hid hj16
              have HY := HX
              rw [mix_end _ _ _ _ (blk_length _) (by omega)] at h2
              have hmx : row16 (mixF (blk Y) p m) = add (blk Y) (padAt p q) := by rw [HM.out]; exact mix_add _ _ _
              rw [hmx] at h2
              have H0 := Lib.hid h0
              have H1 := Lib.hid h1
              clear h1 HX HY
              go_wp2_with fail
              refine (rtimes_any (add (blk Y) (padAt p q)) h (add_length _ _) hh _).mono ?_
              rintro e wA ⟨rfl, hA⟩
              have q2 := row?_lt h2
              have g0 : row? wA w.heap.size = some (bvs h) := by rw [row?_below hA (by omega)]; exact H0.out
              have g1 : row? wA (w.heap.size + 1) = some (bvs (zeros 16)) := by rw [row?_below hA (by omega)]; exact H1.out
              have g2 : row? wA (w.heap.size + 2) = some (bvs (add (blk Y) (padAt p q))) := by rw [row?_below hA q2]; exact h2
              have gb : Below w.heap.size w wA := hbj.trans (hA.mono hbj.size)
              have hst := hash_step h hh Y p q
              have hln : (rtimes (add (blk Y) (padAt p q)) h).length = 16 := by rw [hst]; exact blk_length _
              have G0 := Lib.hid g0
              have G1 := Lib.hid g1
              have ST := Lib.hid hst
              clear h0 h2 hA g0 g1 hst
              go_wp2_with fail
              go_roundw
              case rel =>
                refine ⟨q + 1, m + 16, timesW (wxor Y (wof (padAt p q))) (wof h), by have := HM.out; omega, by go_num, by have := HM.out; omega, ?_, ?_, ?_, ?_, below_setRow gb (by omega) _⟩
                · rw [row?_setRow_ne _ _ _ _ (by omega)]; exact G0.out
                · rw [row?_setRow_ne _ _ _ _ (by omega)]; exact G1.out
                · rw [← ST.out]; exact row?_setRow_eq g2
                · rw [← PS.out]; exact HE.out
              case measure => simp [intOf]; omega
        · have hd : p.drop (16 * q) = [] := List.drop_eq_nil_of_le (by omega)
          have he2 := HE.out
          rw [hd, hashPart_nil] at he2
          have E2 := Lib.hid he2
          clear hm he2 hd hpp
          go_wp2_with fail
          go_roundw
          case rel =>
            refine ⟨k + 1, by omega, by go_num, G0.out, G1.out, ?_, hbq⟩
            rw [E.out, ← E2.out]; exact G2.out
          case measure => simp [intOf]; omega
    · obtain rfl : k = ps.length := by omega
      rw [List.take_length] at h2
      have hl2 := blk_length (hashParts (wof h) ps)
      go_wp2_with fail
      have zl := hb.size
      exact ret16 (w.heap.size + 1) (bvs (Gcm.hash h ps)) rfl rfl rfl (row?_setRow_eq h1) (by rw [bvs_size]; exact hash_length _ _) ⟨rfl, below_setRow hb (by omega) _⟩
end Go.Proofs.Ytdfblojnkchpdaa
