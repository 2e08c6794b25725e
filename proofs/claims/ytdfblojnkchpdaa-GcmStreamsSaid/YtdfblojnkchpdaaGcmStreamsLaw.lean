/- The statement GcmStreams holds: two texts under one key and nonce, crossed, are their seals, crossed, as far as both go; a text's beginning is sealed to the beginning. No condition. -/
import Derived.Test.YtdfblojnkchpdaaGcmL1
import Derived.Test.YtdfblojnkchpdaaLawS
namespace Go.Proofs.Ytdfblojnkchpdaa
open Go.RowKit Go.Rw Aes Gcm Go.ChangeShapes Go.WideShapes Go.ChangeAt
attribute [local go_sem ↓] ld12 ld16 st16 al16 shift_shl8 shift_shr8 bvs_getElem?
attribute [local go_sem] rld12 rld16 rst16 ral16 setRow_alloc_at setRow_alloc_past setRow_drew bvs_setn

theorem nth_sealed (key nonce text data : List UInt8) (i : Nat) (h : i < text.length) : nth (sealed key nonce text data) i = encF key nonce text i := by
  rw [sealed, nth_append, enc_length, if_pos h]
  simp [nth, enc, h]
theorem take_sealed (key nonce text data : List UInt8) (n : Nat) (h : n ≤ text.length) : (sealed key nonce text data).take n = (List.range n).map (encF key nonce text) := by
  apply ext16 (n := n) (by rw [List.length_take, sealed_length]; omega) (by simp)
  intro i hi
  have e : nth ((sealed key nonce text data).take n) i = nth (sealed key nonce text data) i := by unfold nth; rw [List.getElem?_take, if_pos hi]
  rw [e, nth_sealed _ _ _ _ _ (by omega)]
  simp [nth, hi]
theorem encF_take (key nonce text : List UInt8) (n i : Nat) (h : i < n) : encF key nonce (text.take n) i = encF key nonce text i := by
  have e : nth (text.take n) i = nth text i := by unfold nth; rw [List.getElem?_take, if_pos h]
  rw [encF, encF, e]
theorem cross_four (a b k : UInt8) : a ^^^ k ^^^ (b ^^^ k) = a ^^^ b := by
  rw [UInt8.xor_assoc, ← UInt8.xor_assoc k b k, UInt8.xor_comm k b, UInt8.xor_assoc b k k, UInt8.xor_self, UInt8.xor_zero]

set_option maxRecDepth 20000 in
set_option maxHeartbeats 2000000 in
theorem streamsLaw_any (key nonce a b : List UInt8) (hk : key.length = 16) (hn : nonce.length = 12) (va vb : Value) (w : World) (hsa : Sl w va a) (hsb : Sl w vb b) :
    Calls Try.prog 5 #[.agg (bvs key), .agg (bvs nonce), va, vb] w fun e w' => e = .returned (.bool true) ∧ Below w.heap.size w w' := by
  have hsa0 := hsa
  have hsb0 := hsb
  obtain ⟨ao, cap, rfl, hc, hnn, hp⟩ := hsa0
  obtain ⟨ao2, cap2, rfl, hc2, hnn2, hp2⟩ := hsb0
  clear hnn hnn2
  by_cases h1 : a.length ≤ 100
  · by_cases h2 : b.length ≤ 100
    · go_enter Try.func5, Try.ntmps5
      go_wp2_with fail
      refine Rg.wp_region_plan (Rg.row [(0, 0), (1, 0), (2, 3), (4, 0), (5, 0), (6, 3), (3, 1), (7, 1), (8, 3), (9, 3)] []) [] (by kernel_rfl) (by kernel_rfl) ?_
      simp only [Rg.row, Rg.PT.map, List.map_nil, List.getD_cons_zero, List.getD_cons_succ]
      go_wp2_with (first
        | ((with_reducible refine Rg.plan_pure ?_ ?_ ?_); kernel_rfl; kernel_rfl; intro _ _)
        | ((with_reducible refine Rg.plan_take ?_ ?_ ?_); kernel_rfl; kernel_rfl; intro _ _)
        | ((with_reducible refine Rg.plan_keep ?_ ?_); kernel_rfl; intro K hK)
        | (refine hK _ _ (Rg.Keep.refl _) ?_; clear hK)
        | (refine hK _ _ (Rg.Keep.of_below (by assumption)) ?_; clear hK)
        | ((with_reducible refine Rg.plan_skip ?_ ?_); kernel_rfl)
        | (with_reducible refine Rg.plan_done ?_)
        | (with_reducible refine Rg.calm_normal ?_))
      refine (seal_any key nonce a [] hk hn (by omega) (by simp) _ _ _ (hsa.below ((bel2 w _ _).drew)) (Sl.nil _)).mono ?_
      rintro e wA ⟨gx, rfl, hox, hA⟩
      refine hK _ _ (Rg.Keep.of_below hA) ?_
      clear hK
      have zA := hA.size
      simp at zA hox
      have aA : Below w.heap.size w wA := ((bel2 w _ _).drew).trans (hA.mono (by simp; omega))
      have a0 : row? wA w.heap.size = some (bvs key) := by rw [row?_below hA (by simp; omega), row?_drew]; simp [go_sem]
      have a1 : row? wA (w.heap.size + 1) = some (bvs nonce) := by rw [row?_below hA (by simp), row?_drew]; simp [go_sem]
      clear hA
      go_wp2_with (first
        | ((with_reducible refine Rg.plan_pure ?_ ?_ ?_); kernel_rfl; kernel_rfl; intro _ _)
        | ((with_reducible refine Rg.plan_take ?_ ?_ ?_); kernel_rfl; kernel_rfl; intro _ _)
        | ((with_reducible refine Rg.plan_keep ?_ ?_); kernel_rfl; intro K hK)
        | (refine hK _ _ (Rg.Keep.refl _) ?_; clear hK)
        | (refine hK _ _ (Rg.Keep.of_below (by assumption)) ?_; clear hK)
        | ((with_reducible refine Rg.plan_skip ?_ ?_); kernel_rfl)
        | (with_reducible refine Rg.plan_done ?_)
        | (with_reducible refine Rg.calm_normal ?_))
      refine (seal_any key nonce b [] hk hn (by omega) (by simp) _ _ _ (hsb.below aA) (Sl.nil _)).mono ?_
      rintro e wB ⟨gy, rfl, hoy, hB⟩
      refine hK _ _ (Rg.Keep.of_below hB) ?_
      clear hK
      have zB := hB.size
      have hgx := (hox.lt gx rfl)
      have hgy := (hoy.lt gy rfl)
      have aB : Below w.heap.size w wB := aA.trans (hB.mono (by omega))
      have b0 : row? wB w.heap.size = some (bvs key) := by rw [row?_below hB (by omega)]; exact a0
      have b1 : row? wB (w.heap.size + 1) = some (bvs nonce) := by rw [row?_below hB (by omega)]; exact a1
      have hox2 := own_same (w' := wB) hox (hB.block _ hgx.2)
      clear hB hox a0 a1 aA
      have B0 := Lib.hid b0
      have B1 := Lib.hid b1
      have OX := Lib.hid hox2
      have OY := Lib.hid hoy
      clear b0 b1 hox2 hoy
      by_cases hab : a.length ≤ b.length
      · skip
        have la : a.length ≤ a.length := by omega
        have lb : a.length ≤ b.length := by omega
        go_wp2_with (first
          | ((with_reducible refine Rg.plan_pure ?_ ?_ ?_); kernel_rfl; kernel_rfl; intro _ _)
          | ((with_reducible refine Rg.plan_take ?_ ?_ ?_); kernel_rfl; kernel_rfl; intro _ _)
          | ((with_reducible refine Rg.plan_keep ?_ ?_); kernel_rfl; intro K hK)
          | (refine hK _ _ (Rg.Keep.refl _) ?_; clear hK)
          | (refine hK _ _ (Rg.Keep.of_below (by assumption)) ?_; clear hK)
          | ((with_reducible refine Rg.plan_skip ?_ ?_); kernel_rfl)
          | (with_reducible refine Rg.plan_done ?_)
          | (with_reducible refine Rg.calm_normal ?_))
        go_loopw [12] (fun v wr => ∃ k : Nat, k ≤ a.length ∧ v = .int .i64 k ∧ row? wr w.heap.size = some (bvs key) ∧ row? wr (w.heap.size + 1) = some (bvs nonce) ∧ Below wB.heap.size wB wr) (fun v _ => a.length - (intOf v).toNat)
        case atStart => exact ⟨0, by omega, rfl, B0.out, B1.out, Below.refl _ _⟩
        case round =>
          obtain ⟨k, hk', rfl, h0, h1, hb⟩ := hrel
          have obx := own_same (w' := wr) OX.out (hb.block _ (Nat.lt_of_lt_of_le hgx.2 zB))
          have oby := own_same (w' := wr) OY.out (hb.block _ hgy.2)
          have hbw : Below w.heap.size w wr := aB.trans (hb.mono aB.size)
          have H0 := Lib.hid h0
          have H1 := Lib.hid h1
          by_cases hlt : k < a.length
          · obtain ⟨b1, off1, rfl, hcell1⟩ := hp (by omega)
            obtain ⟨b2, off2, rfl, hcell2⟩ := hp2 (by omega)
            have c1 := below_cell hbw (hcell1 k (by omega)) (cell_lt (hcell1 k (by omega)))
            have c2 := below_cell hbw (hcell2 k (by omega)) (cell_lt (hcell2 k (by omega)))
            have cx : wr.cell? ⟨gx, k, none⟩ = some (.int .u8 (n8 (nth (sealed key nonce a []) k) : Nat)) := by
              rw [obx.cellAt k (by omega)]
              simp [nth, bv, n8, show k < (sealed key nonce a []).length by rw [sealed_length]; omega]
            have cy : wr.cell? ⟨gy, k, none⟩ = some (.int .u8 (n8 (nth (sealed key nonce b []) k) : Nat)) := by
              rw [oby.cellAt k (by omega)]
              simp [nth, bv, n8, show k < (sealed key nonce b []).length by rw [sealed_length]; omega]
            have hx : (nth (sealed key nonce a []) k ^^^ nth (sealed key nonce b []) k != nth a k ^^^ nth b k) = false := by
              rw [nth_sealed _ _ _ _ _ (by omega), nth_sealed _ _ _ _ _ (by omega), encF, encF, cross_four]; simp
            have HC1 := Lib.hid hcell1
            have HC2 := Lib.hid hcell2
            clear hcell1 hcell2 h0 h1 obx oby
            go_wp2_with fail
            refine Rg.wp_region_plan (Rg.row [(0, 3), (1, 3), (2, 3), (3, 0), (4, 3), (5, 3), (6, 3), (7, 0), (8, 3), (9, 3), (10, 3), (11, 3), (12, 0), (13, 3), (14, 3), (15, 3), (16, 0), (17, 3), (18, 3)] []) [] (by kernel_rfl) (by kernel_rfl) ?_
            simp only [Rg.row, Rg.PT.map, List.map_nil, List.getD_cons_zero, List.getD_cons_succ]
            go_wp2_with (first
              | ((with_reducible refine Rg.plan_pure ?_ ?_ ?_); kernel_rfl; kernel_rfl; intro _ _)
              | ((with_reducible refine Rg.plan_take ?_ ?_ ?_); kernel_rfl; kernel_rfl; intro _ _)
              | ((with_reducible refine Rg.plan_keep ?_ ?_); kernel_rfl; intro K hK)
              | (refine hK _ _ (Rg.Keep.refl _) ?_; clear hK)
              | (refine hK _ _ (Rg.Keep.of_below (by assumption)) ?_; clear hK)
              | ((with_reducible refine Rg.plan_skip ?_ ?_); kernel_rfl)
              | (with_reducible refine Rg.plan_done ?_)
              | (with_reducible refine Rg.calm_normal ?_))
            go_roundw
            case rel => exact ⟨k + 1, by omega, by go_num, H0.out, H1.out, hb.drew⟩
            case measure => simp [intOf]; omega
          · have hk2 : k = a.length := by omega
            have hcm := hsa.cut 0 (a.length) (by omega) (by omega)
            rw [List.drop_zero, Nat.sub_zero, Nat.sub_zero] at hcm
            have hcut : ∀ W, (Instr.sliceAt 24 (.slice ao a.length cap) none (some (.int .i64 ((a.length : Nat) : Int))) none).run Try.prog W = .ok (.slice (cutA ao 0 cap) (a.length) cap) W := fun W => by
              rw [cut_h TB W _ _ _ _ _ (by omega) (by omega)]; rfl
            generalize cutA ao 0 cap = aC at hcm hcut
            have htl : (a.take (a.length)).length = a.length := by rw [List.length_take]; omega
            have OBX := Lib.hid obx
            have OBY := Lib.hid oby
            have zr := hb.size
            clear obx oby hk2
            go_wp2_with fail
            refine Rg.wp_region_plan (Rg.row [(0, 0), (1, 0), (2, 3), (3, 3), (4, 3), (5, 1), (6, 3)] []) [] (by kernel_rfl) (by kernel_rfl) ?_
            simp only [Rg.row, Rg.PT.map, List.map_nil, List.getD_cons_zero, List.getD_cons_succ]
            go_wp2_with (first
              | ((with_reducible refine Rg.plan_pure ?_ ?_ ?_); kernel_rfl; kernel_rfl; intro _ _)
              | ((with_reducible refine Rg.plan_take ?_ ?_ ?_); kernel_rfl; kernel_rfl; intro _ _)
              | ((with_reducible refine Rg.plan_keep ?_ ?_); kernel_rfl; intro K hK)
              | (refine hK _ _ (Rg.Keep.refl _) ?_; clear hK)
              | (refine hK _ _ (Rg.Keep.of_below (by assumption)) ?_; clear hK)
              | ((with_reducible refine Rg.plan_skip ?_ ?_); kernel_rfl)
              | (with_reducible refine Rg.plan_done ?_)
              | (with_reducible refine Rg.calm_normal ?_))
            refine (seal_any key nonce (a.take (a.length)) [] hk hn (by omega) (by simp) _ _ _ (hcm.below hbw.drew) (Sl.nil _)).mono ?_
            rintro e wC ⟨gz, rfl, hoz, hC⟩
            refine hK _ _ (Rg.Keep.of_below hC) ?_
            clear hK
            have zC := hC.size
            have hgz := hoz.lt gz rfl
            have aC2 : Below w.heap.size w wC := hbw.drew.trans (hC.mono hbw.drew.size)
            have ocx := own_same (w' := wC) OBX.out (hC.block _ (by show gx < wr.heap.size; omega))
            rw [htl] at hoz
            have hsz := Own.sl (l := sealed key nonce (a.take (a.length)) []) (B := _) (e := 5) (w := wC) (v := .slice (some ⟨gz, 0, none⟩) (a.length + 16) (a.length + 16)) (by rw [sealed_length, htl]; exact hoz)
            have hsx := Own.sl (l := sealed key nonce a []) (B := _) (e := 5) (w := wC) (v := .slice (some ⟨gx, 0, none⟩) (a.length + 16) (a.length + 16)) (by rw [sealed_length]; exact ocx)
            have hz1 := hsz.cut 0 (a.length) (by omega) (by omega)
            have hx1 := hsx.cut 0 (a.length) (by omega) (by omega)
            rw [List.drop_zero, Nat.sub_zero, Nat.sub_zero, take_sealed _ _ _ _ _ (by rw [htl]; exact Nat.le_refl _)] at hz1
            rw [List.drop_zero, Nat.sub_zero, Nat.sub_zero, take_sealed _ _ _ _ _ la] at hx1
            have hcz : ∀ W, (Instr.sliceAt 24 (.slice (some ⟨gz, 0, none⟩) (a.length + 16) (a.length + 16)) none (some (.int .i64 ((a.length : Nat) : Int))) none).run Try.prog W = .ok (.slice (cutA (some ⟨gz, 0, none⟩) 0 (a.length + 16)) (a.length) (a.length + 16)) W := fun W => by
              rw [cut_h TB W _ _ _ _ _ (by omega) (by omega)]; rfl
            have hcx : ∀ W, (Instr.sliceAt 24 (.slice (some ⟨gx, 0, none⟩) (a.length + 16) (a.length + 16)) none (some (.int .i64 ((a.length : Nat) : Int))) none).run Try.prog W = .ok (.slice (cutA (some ⟨gx, 0, none⟩) 0 (a.length + 16)) (a.length) (a.length + 16)) W := fun W => by
              rw [cut_h TB W _ _ _ _ _ (by omega) (by omega)]; rfl
            have heq : (List.range (a.length)).map (encF key nonce (a.take (a.length))) = (List.range (a.length)).map (encF key nonce a) :=
              List.map_congr_left fun i hi => encF_take key nonce a (a.length) i (by simpa using hi)
            rw [heq] at hz1
            generalize cutA (some ⟨gz, 0, none⟩) 0 (a.length + 16) = aZ at hcz hz1
            generalize cutA (some ⟨gx, 0, none⟩) 0 (a.length + 16) = aX at hcx hx1
            clear hsz hsx hoz ocx heq
            rw [htl]
            go_wp2_with (first
              | ((with_reducible refine Rg.plan_pure ?_ ?_ ?_); kernel_rfl; kernel_rfl; intro _ _)
              | ((with_reducible refine Rg.plan_take ?_ ?_ ?_); kernel_rfl; kernel_rfl; intro _ _)
              | ((with_reducible refine Rg.plan_keep ?_ ?_); kernel_rfl; intro K hK)
              | (refine hK _ _ (Rg.Keep.refl _) ?_; clear hK)
              | (refine hK _ _ (Rg.Keep.of_below (by assumption)) ?_; clear hK)
              | ((with_reducible refine Rg.plan_skip ?_ ?_); kernel_rfl)
              | (with_reducible refine Rg.plan_done ?_)
              | (with_reducible refine Rg.calm_normal ?_))
            refine Rg.wp_region_plan (Rg.row [(0, 3), (1, 0), (2, 3), (3, 3), (4, 3), (5, 3), (6, 3), (7, 3), (8, 3), (9, 3), (10, 3), (11, 3), (12, 1), (13, 3), (14, 3), (15, 1), (16, 3), (17, 3)] []) [] (by kernel_rfl) (by kernel_rfl) ?_
            simp only [Rg.row, Rg.PT.map, List.map_nil, List.getD_cons_zero, List.getD_cons_succ]
            go_wp2_with (first
              | ((with_reducible refine Rg.plan_pure ?_ ?_ ?_); kernel_rfl; kernel_rfl; intro _ _)
              | ((with_reducible refine Rg.plan_take ?_ ?_ ?_); kernel_rfl; kernel_rfl; intro _ _)
              | ((with_reducible refine Rg.plan_keep ?_ ?_); kernel_rfl; intro K hK)
              | (refine hK _ _ (Rg.Keep.refl _) ?_; clear hK)
              | (refine hK _ _ (Rg.Keep.of_below (by assumption)) ?_; clear hK)
              | ((with_reducible refine Rg.plan_skip ?_ ?_); kernel_rfl)
              | (with_reducible refine Rg.plan_done ?_)
              | (with_reducible refine Rg.calm_normal ?_))
            refine (same_any _ _ (by simp; omega) _ _ wC.drew hz1 hx1).mono ?_
            rintro e wD ⟨rfl, hD⟩
            rw [decide_eq_true rfl]
            refine hK _ _ (Rg.Keep.of_below hD) ?_
            clear hK
            go_wp2_with (first
              | ((with_reducible refine Rg.plan_pure ?_ ?_ ?_); kernel_rfl; kernel_rfl; intro _ _)
              | ((with_reducible refine Rg.plan_take ?_ ?_ ?_); kernel_rfl; kernel_rfl; intro _ _)
              | ((with_reducible refine Rg.plan_keep ?_ ?_); kernel_rfl; intro K hK)
              | (refine hK _ _ (Rg.Keep.refl _) ?_; clear hK)
              | (refine hK _ _ (Rg.Keep.of_below (by assumption)) ?_; clear hK)
              | ((with_reducible refine Rg.plan_skip ?_ ?_); kernel_rfl)
              | (with_reducible refine Rg.plan_done ?_)
              | (with_reducible refine Rg.calm_normal ?_))
            refine (awake_any _).mono ?_
            rintro e wE ⟨rfl, hE⟩
            refine hK _ _ (Rg.Keep.of_below hE) ?_
            clear hK
            go_wp2_with (first
              | ((with_reducible refine Rg.plan_pure ?_ ?_ ?_); kernel_rfl; kernel_rfl; intro _ _)
              | ((with_reducible refine Rg.plan_take ?_ ?_ ?_); kernel_rfl; kernel_rfl; intro _ _)
              | ((with_reducible refine Rg.plan_keep ?_ ?_); kernel_rfl; intro K hK)
              | (refine hK _ _ (Rg.Keep.refl _) ?_; clear hK)
              | (refine hK _ _ (Rg.Keep.of_below (by assumption)) ?_; clear hK)
              | ((with_reducible refine Rg.plan_skip ?_ ?_); kernel_rfl)
              | (with_reducible refine Rg.plan_done ?_)
              | (with_reducible refine Rg.calm_normal ?_))
            go_ret
            have q1 := hD.size
            exact ⟨rfl, aC2.drew.trans ((hD.mono aC2.drew.size).trans (hE.mono (Nat.le_trans aC2.drew.size q1)))⟩
      · skip
        have la : b.length ≤ a.length := by omega
        have lb : b.length ≤ b.length := by omega
        go_wp2_with (first
          | ((with_reducible refine Rg.plan_pure ?_ ?_ ?_); kernel_rfl; kernel_rfl; intro _ _)
          | ((with_reducible refine Rg.plan_take ?_ ?_ ?_); kernel_rfl; kernel_rfl; intro _ _)
          | ((with_reducible refine Rg.plan_keep ?_ ?_); kernel_rfl; intro K hK)
          | (refine hK _ _ (Rg.Keep.refl _) ?_; clear hK)
          | (refine hK _ _ (Rg.Keep.of_below (by assumption)) ?_; clear hK)
          | ((with_reducible refine Rg.plan_skip ?_ ?_); kernel_rfl)
          | (with_reducible refine Rg.plan_done ?_)
          | (with_reducible refine Rg.calm_normal ?_))
        go_loopw [12] (fun v wr => ∃ k : Nat, k ≤ b.length ∧ v = .int .i64 k ∧ row? wr w.heap.size = some (bvs key) ∧ row? wr (w.heap.size + 1) = some (bvs nonce) ∧ Below wB.heap.size wB wr) (fun v _ => b.length - (intOf v).toNat)
        case atStart => exact ⟨0, by omega, rfl, B0.out, B1.out, Below.refl _ _⟩
        case round =>
          obtain ⟨k, hk', rfl, h0, h1, hb⟩ := hrel
          have obx := own_same (w' := wr) OX.out (hb.block _ (Nat.lt_of_lt_of_le hgx.2 zB))
          have oby := own_same (w' := wr) OY.out (hb.block _ hgy.2)
          have hbw : Below w.heap.size w wr := aB.trans (hb.mono aB.size)
          have H0 := Lib.hid h0
          have H1 := Lib.hid h1
          by_cases hlt : k < b.length
          · obtain ⟨b1, off1, rfl, hcell1⟩ := hp (by omega)
            obtain ⟨b2, off2, rfl, hcell2⟩ := hp2 (by omega)
            have c1 := below_cell hbw (hcell1 k (by omega)) (cell_lt (hcell1 k (by omega)))
            have c2 := below_cell hbw (hcell2 k (by omega)) (cell_lt (hcell2 k (by omega)))
            have cx : wr.cell? ⟨gx, k, none⟩ = some (.int .u8 (n8 (nth (sealed key nonce a []) k) : Nat)) := by
              rw [obx.cellAt k (by omega)]
              simp [nth, bv, n8, show k < (sealed key nonce a []).length by rw [sealed_length]; omega]
            have cy : wr.cell? ⟨gy, k, none⟩ = some (.int .u8 (n8 (nth (sealed key nonce b []) k) : Nat)) := by
              rw [oby.cellAt k (by omega)]
              simp [nth, bv, n8, show k < (sealed key nonce b []).length by rw [sealed_length]; omega]
            have hx : (nth (sealed key nonce a []) k ^^^ nth (sealed key nonce b []) k != nth a k ^^^ nth b k) = false := by
              rw [nth_sealed _ _ _ _ _ (by omega), nth_sealed _ _ _ _ _ (by omega), encF, encF, cross_four]; simp
            have HC1 := Lib.hid hcell1
            have HC2 := Lib.hid hcell2
            clear hcell1 hcell2 h0 h1 obx oby
            go_wp2_with fail
            refine Rg.wp_region_plan (Rg.row [(0, 3), (1, 3), (2, 3), (3, 0), (4, 3), (5, 3), (6, 3), (7, 0), (8, 3), (9, 3), (10, 3), (11, 3), (12, 0), (13, 3), (14, 3), (15, 3), (16, 0), (17, 3), (18, 3)] []) [] (by kernel_rfl) (by kernel_rfl) ?_
            simp only [Rg.row, Rg.PT.map, List.map_nil, List.getD_cons_zero, List.getD_cons_succ]
            go_wp2_with (first
              | ((with_reducible refine Rg.plan_pure ?_ ?_ ?_); kernel_rfl; kernel_rfl; intro _ _)
              | ((with_reducible refine Rg.plan_take ?_ ?_ ?_); kernel_rfl; kernel_rfl; intro _ _)
              | ((with_reducible refine Rg.plan_keep ?_ ?_); kernel_rfl; intro K hK)
              | (refine hK _ _ (Rg.Keep.refl _) ?_; clear hK)
              | (refine hK _ _ (Rg.Keep.of_below (by assumption)) ?_; clear hK)
              | ((with_reducible refine Rg.plan_skip ?_ ?_); kernel_rfl)
              | (with_reducible refine Rg.plan_done ?_)
              | (with_reducible refine Rg.calm_normal ?_))
            go_roundw
            case rel => exact ⟨k + 1, by omega, by go_num, H0.out, H1.out, hb.drew⟩
            case measure => simp [intOf]; omega
          · have hk2 : k = b.length := by omega
            have hcm := hsa.cut 0 (b.length) (by omega) (by omega)
            rw [List.drop_zero, Nat.sub_zero, Nat.sub_zero] at hcm
            have hcut : ∀ W, (Instr.sliceAt 24 (.slice ao a.length cap) none (some (.int .i64 ((b.length : Nat) : Int))) none).run Try.prog W = .ok (.slice (cutA ao 0 cap) (b.length) cap) W := fun W => by
              rw [cut_h TB W _ _ _ _ _ (by omega) (by omega)]; rfl
            generalize cutA ao 0 cap = aC at hcm hcut
            have htl : (a.take (b.length)).length = b.length := by rw [List.length_take]; omega
            have OBX := Lib.hid obx
            have OBY := Lib.hid oby
            have zr := hb.size
            clear obx oby hk2
            go_wp2_with fail
            refine Rg.wp_region_plan (Rg.row [(0, 0), (1, 0), (2, 3), (3, 3), (4, 3), (5, 1), (6, 3)] []) [] (by kernel_rfl) (by kernel_rfl) ?_
            simp only [Rg.row, Rg.PT.map, List.map_nil, List.getD_cons_zero, List.getD_cons_succ]
            go_wp2_with (first
              | ((with_reducible refine Rg.plan_pure ?_ ?_ ?_); kernel_rfl; kernel_rfl; intro _ _)
              | ((with_reducible refine Rg.plan_take ?_ ?_ ?_); kernel_rfl; kernel_rfl; intro _ _)
              | ((with_reducible refine Rg.plan_keep ?_ ?_); kernel_rfl; intro K hK)
              | (refine hK _ _ (Rg.Keep.refl _) ?_; clear hK)
              | (refine hK _ _ (Rg.Keep.of_below (by assumption)) ?_; clear hK)
              | ((with_reducible refine Rg.plan_skip ?_ ?_); kernel_rfl)
              | (with_reducible refine Rg.plan_done ?_)
              | (with_reducible refine Rg.calm_normal ?_))
            refine (seal_any key nonce (a.take (b.length)) [] hk hn (by omega) (by simp) _ _ _ (hcm.below hbw.drew) (Sl.nil _)).mono ?_
            rintro e wC ⟨gz, rfl, hoz, hC⟩
            refine hK _ _ (Rg.Keep.of_below hC) ?_
            clear hK
            have zC := hC.size
            have hgz := hoz.lt gz rfl
            have aC2 : Below w.heap.size w wC := hbw.drew.trans (hC.mono hbw.drew.size)
            have ocx := own_same (w' := wC) OBX.out (hC.block _ (by show gx < wr.heap.size; omega))
            rw [htl] at hoz
            have hsz := Own.sl (l := sealed key nonce (a.take (b.length)) []) (B := _) (e := 5) (w := wC) (v := .slice (some ⟨gz, 0, none⟩) (b.length + 16) (b.length + 16)) (by rw [sealed_length, htl]; exact hoz)
            have hsx := Own.sl (l := sealed key nonce a []) (B := _) (e := 5) (w := wC) (v := .slice (some ⟨gx, 0, none⟩) (a.length + 16) (a.length + 16)) (by rw [sealed_length]; exact ocx)
            have hz1 := hsz.cut 0 (b.length) (by omega) (by omega)
            have hx1 := hsx.cut 0 (b.length) (by omega) (by omega)
            rw [List.drop_zero, Nat.sub_zero, Nat.sub_zero, take_sealed _ _ _ _ _ (by rw [htl]; exact Nat.le_refl _)] at hz1
            rw [List.drop_zero, Nat.sub_zero, Nat.sub_zero, take_sealed _ _ _ _ _ la] at hx1
            have hcz : ∀ W, (Instr.sliceAt 24 (.slice (some ⟨gz, 0, none⟩) (b.length + 16) (b.length + 16)) none (some (.int .i64 ((b.length : Nat) : Int))) none).run Try.prog W = .ok (.slice (cutA (some ⟨gz, 0, none⟩) 0 (b.length + 16)) (b.length) (b.length + 16)) W := fun W => by
              rw [cut_h TB W _ _ _ _ _ (by omega) (by omega)]; rfl
            have hcx : ∀ W, (Instr.sliceAt 24 (.slice (some ⟨gx, 0, none⟩) (a.length + 16) (a.length + 16)) none (some (.int .i64 ((b.length : Nat) : Int))) none).run Try.prog W = .ok (.slice (cutA (some ⟨gx, 0, none⟩) 0 (a.length + 16)) (b.length) (a.length + 16)) W := fun W => by
              rw [cut_h TB W _ _ _ _ _ (by omega) (by omega)]; rfl
            have heq : (List.range (b.length)).map (encF key nonce (a.take (b.length))) = (List.range (b.length)).map (encF key nonce a) :=
              List.map_congr_left fun i hi => encF_take key nonce a (b.length) i (by simpa using hi)
            rw [heq] at hz1
            generalize cutA (some ⟨gz, 0, none⟩) 0 (b.length + 16) = aZ at hcz hz1
            generalize cutA (some ⟨gx, 0, none⟩) 0 (a.length + 16) = aX at hcx hx1
            clear hsz hsx hoz ocx heq
            rw [htl]
            go_wp2_with (first
              | ((with_reducible refine Rg.plan_pure ?_ ?_ ?_); kernel_rfl; kernel_rfl; intro _ _)
              | ((with_reducible refine Rg.plan_take ?_ ?_ ?_); kernel_rfl; kernel_rfl; intro _ _)
              | ((with_reducible refine Rg.plan_keep ?_ ?_); kernel_rfl; intro K hK)
              | (refine hK _ _ (Rg.Keep.refl _) ?_; clear hK)
              | (refine hK _ _ (Rg.Keep.of_below (by assumption)) ?_; clear hK)
              | ((with_reducible refine Rg.plan_skip ?_ ?_); kernel_rfl)
              | (with_reducible refine Rg.plan_done ?_)
              | (with_reducible refine Rg.calm_normal ?_))
            refine Rg.wp_region_plan (Rg.row [(0, 3), (1, 0), (2, 3), (3, 3), (4, 3), (5, 3), (6, 3), (7, 3), (8, 3), (9, 3), (10, 3), (11, 3), (12, 1), (13, 3), (14, 3), (15, 1), (16, 3), (17, 3)] []) [] (by kernel_rfl) (by kernel_rfl) ?_
            simp only [Rg.row, Rg.PT.map, List.map_nil, List.getD_cons_zero, List.getD_cons_succ]
            go_wp2_with (first
              | ((with_reducible refine Rg.plan_pure ?_ ?_ ?_); kernel_rfl; kernel_rfl; intro _ _)
              | ((with_reducible refine Rg.plan_take ?_ ?_ ?_); kernel_rfl; kernel_rfl; intro _ _)
              | ((with_reducible refine Rg.plan_keep ?_ ?_); kernel_rfl; intro K hK)
              | (refine hK _ _ (Rg.Keep.refl _) ?_; clear hK)
              | (refine hK _ _ (Rg.Keep.of_below (by assumption)) ?_; clear hK)
              | ((with_reducible refine Rg.plan_skip ?_ ?_); kernel_rfl)
              | (with_reducible refine Rg.plan_done ?_)
              | (with_reducible refine Rg.calm_normal ?_))
            refine (same_any _ _ (by simp; omega) _ _ wC.drew hz1 hx1).mono ?_
            rintro e wD ⟨rfl, hD⟩
            rw [decide_eq_true rfl]
            refine hK _ _ (Rg.Keep.of_below hD) ?_
            clear hK
            go_wp2_with (first
              | ((with_reducible refine Rg.plan_pure ?_ ?_ ?_); kernel_rfl; kernel_rfl; intro _ _)
              | ((with_reducible refine Rg.plan_take ?_ ?_ ?_); kernel_rfl; kernel_rfl; intro _ _)
              | ((with_reducible refine Rg.plan_keep ?_ ?_); kernel_rfl; intro K hK)
              | (refine hK _ _ (Rg.Keep.refl _) ?_; clear hK)
              | (refine hK _ _ (Rg.Keep.of_below (by assumption)) ?_; clear hK)
              | ((with_reducible refine Rg.plan_skip ?_ ?_); kernel_rfl)
              | (with_reducible refine Rg.plan_done ?_)
              | (with_reducible refine Rg.calm_normal ?_))
            refine (awake_any _).mono ?_
            rintro e wE ⟨rfl, hE⟩
            refine hK _ _ (Rg.Keep.of_below hE) ?_
            clear hK
            go_wp2_with (first
              | ((with_reducible refine Rg.plan_pure ?_ ?_ ?_); kernel_rfl; kernel_rfl; intro _ _)
              | ((with_reducible refine Rg.plan_take ?_ ?_ ?_); kernel_rfl; kernel_rfl; intro _ _)
              | ((with_reducible refine Rg.plan_keep ?_ ?_); kernel_rfl; intro K hK)
              | (refine hK _ _ (Rg.Keep.refl _) ?_; clear hK)
              | (refine hK _ _ (Rg.Keep.of_below (by assumption)) ?_; clear hK)
              | ((with_reducible refine Rg.plan_skip ?_ ?_); kernel_rfl)
              | (with_reducible refine Rg.plan_done ?_)
              | (with_reducible refine Rg.calm_normal ?_))
            go_ret
            have q1 := hD.size
            exact ⟨rfl, aC2.drew.trans ((hD.mono aC2.drew.size).trans (hE.mono (Nat.le_trans aC2.drew.size q1)))⟩
    · go_enter Try.func5, Try.ntmps5
      go_wp2_with (go_at_call 9; refine (awake_any _).mono ?_; rintro e w' ⟨rfl, hb⟩)
      go_ret
      exact ⟨rfl, (bel2 w _ _).trans (hb.mono (by simp; omega))⟩
  · go_enter Try.func5, Try.ntmps5
    go_wp2_with (go_at_call 9; refine (awake_any _).mono ?_; rintro e w' ⟨rfl, hb⟩)
    go_ret
    exact ⟨rfl, (bel2 w _ _).trans (hb.mono (by simp; omega))⟩
namespace gcmStreamsP
theorem own : ownKnob Try.prog.godebug = none := by kernel_rfl
theorem laidOut : laidOutB Try.prog = true := by kernel_rfl
theorem readable : (Try.f5.params.toList.all fun t => Try.prog.readableRec t && decide (t < Try.prog.types.size)) = true := by kernel_rfl
theorem contract (H : Type) (enc : TypeId × Value → H) (W : World) (base : Nat) (args : Array Value) (ds gs : List (DataW H)) (before : List MemPlace)
    (hval : ∀ (j : Nat) t v, Try.f5.params[j]? = some t → args[j]? = some v → Value.okWide Try.prog W .any base t v)
    (hW : DataW.Whole enc Try.prog Try.f5.params.toList Rows.gcmStreamsSpec.vars false W args.toList ds gs before) :
    Calls Try.prog 5 args W fun e W' => ∃ v, e = .returned v ∧ Rows.gcmStreamsSpec.post enc Try.prog Try.f5 false true false false W args v W' := by
  have hW' := hW
  obtain ⟨p, q, hA0, hV, rfl, hfz, hnd⟩ := hW
  have hA : DataW.TrodAll enc Try.prog W 0 (fun _ => true) true Try.f5.params.toList args.toList ds p := hA0
  rw [Try.params5] at hA hval
  obtain ⟨v0, vs0, d0, ds0, p0, q0, hargs, rfl, rfl, h0, r0⟩ := trodAll_cons hA
  obtain ⟨v1, vs1, d1, ds1, p1, q1, rfl, rfl, rfl, h1, r1⟩ := trodAll_cons r0
  obtain ⟨v2, vs2, d2, ds2, p2, q2, rfl, rfl, rfl, h2, r2⟩ := trodAll_cons r1
  obtain ⟨v3, vs3, d3, ds3, p3, q3, rfl, rfl, rfl, h3, r3⟩ := trodAll_cons r2
  obtain ⟨rfl, rfl, rfl⟩ := trodAll_nil r3
  obtain rfl : args = #[v0, v1, v2, v3] := by cases args; simp_all
  obtain ⟨key, h_key, rfl⟩ := Law.open_bytes Try.underlying22 (by kernel_rfl) ⟨List.replicate 16 5, by kernel_rfl, by kernel_rfl⟩ Try.underlying5 (hval 0 22 v0 rfl rfl)
  obtain ⟨nonce, h_nonce, rfl⟩ := Law.open_bytes Try.underlying23 (by kernel_rfl) ⟨List.replicate 12 5, by kernel_rfl, by kernel_rfl⟩ Try.underlying5 (hval 1 23 v1 rfl rfl)
  obtain ⟨a, h_a⟩ := Law.open_slice Try.underlying24 Try.underlying5 (by kernel_rfl) (hval 2 24 v2 rfl rfl) h2
  obtain ⟨b, h_b⟩ := Law.open_slice Try.underlying24 Try.underlying5 (by kernel_rfl) (hval 3 24 v3 rfl rfl) h3
  refine (streamsLaw_any key nonce a b h_key h_nonce v2 v3 W h_a h_b).mono fun e W' ⟨he, hb⟩ => ?_
  subst he
  exact ⟨_, rfl, Law.post_of_law laidOut readable hW' rfl hb rfl Try.underlying4 rfl rfl rfl⟩
set_option maxRecDepth 100000 in
theorem lifted (os : Os) (started : os.Started) (H : Type) (enc : TypeId × Value → H) :
    ReturnsInHanded {} Try.checked os 5 .any (Rows.gcmStreamsSpec.pre6 enc Try.prog Try.f5 Rows.gcmStreamsRow.domain false) (Rows.gcmStreamsSpec.post enc Try.prog Try.f5 false true false false) := by
  refine returnsInHanded_of_change (C := Try.checked) own started (by kernel_rfl) Try.func5
    (ChangeSpec.witness6 (enc := enc) (C := Try.checked) false ⟨#[], #[.agg #[.int .u8 0, .int .u8 0, .int .u8 0, .int .u8 0, .int .u8 0, .int .u8 0, .int .u8 0, .int .u8 0, .int .u8 0, .int .u8 0, .int .u8 0, .int .u8 0, .int .u8 0, .int .u8 0, .int .u8 0, .int .u8 0], .agg #[.int .u8 0, .int .u8 0, .int .u8 0, .int .u8 0, .int .u8 0, .int .u8 0, .int .u8 0, .int .u8 0, .int .u8 0, .int .u8 0, .int .u8 0, .int .u8 0], .slice none 0 0, .slice none 0 0], []⟩ 8 (by kernel_rfl) (by kernel_rfl) (by kernel_rfl) (by kernel_rfl)) ?_
  intro W base args ds gs before hval hW _ _
  exact contract H enc W base args ds gs before hval hW
theorem said : Rows.GcmStreamsSaid :=
  OpenClaim.holds_of_wide 5 Try.f5 rfl rfl rfl rfl rfl rfl rfl ⟨rfl, rfl, rfl, rfl, rfl⟩ rfl rfl rfl rfl rfl (by kernel_rfl) Try.func5 (by kernel_rfl)
    (of_decide_eq_true (by kernel_rfl)) (by unfold Func.isWrapper; first | (rw [if_pos (by decide +kernel)]; kernel_rfl) | (rw [if_neg (by decide +kernel)]; exact ⟨rfl, rfl⟩))
    (fun os started H enc _ => lifted os started H enc)
end gcmStreamsP
end Go.Proofs.Ytdfblojnkchpdaa
