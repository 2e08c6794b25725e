/- The walks of the document's Seal and Open. -/
import Derived.Test.YtdfblojnkchpdaaGcmR4
import Derived.Test.YtdfblojnkchpdaaLibF
namespace Go.Proofs.Ytdfblojnkchpdaa
open Go.RowKit Go.Rw Aes Gcm
attribute [local go_sem ↓] ld12 ld16 st16 al16 shift_shl8 shift_shr8 shift_shr32 shift_shr64 bvs_getElem?
attribute [local go_sem] rld12 rld16 rst16 ral16 setRow_alloc_at setRow_alloc_past setRow_drew bvs_setn

set_option maxRecDepth 20000 in
set_option maxHeartbeats 1000000 in
theorem rseal_any (key nonce text data : List UInt8) (hk : key.length = 16) (hn : nonce.length = 12) (ht : text.length ≤ 1000000) (hdl : data.length ≤ 1000000) (vs vd : Value) (w : World) (hs : Sl w vs text) (hd : Sl w vd data) :
    Calls Try.prog 12 #[.agg (bvs key), .agg (bvs nonce), vs, vd] w fun e w' =>
      ∃ v, e = .returned v ∧ w'.ownsRow w.heap.size 5 1 v (text.length + 16) ((sealed key nonce text data).map bv) ∧ Below w.heap.size w w' := by
  obtain ⟨i0, hi, hz0, hz1, hz2⟩ := info_parts info8
  go_enter Try.func12, Try.ntmps12
  go_wp2_with fail
  refine (rnew_any key hk _).mono ?_
  rintro e w1 ⟨B, rfl, hB, hBl, h1⟩
  have z1 := h1.size
  simp at z1 hBl
  have a1 : row? w1 (w.heap.size + 1) = some (bvs nonce) := by rw [row?_below h1 (by simp)]; simp [go_sem]
  have b1 : Below w.heap.size w w1 := (bel2 w _ _).trans (h1.mono (by simp; omega))
  clear h1
  go_wp2_with fail
  refine (turn_any key nonce text hk hn ht _ B _ hB (hs.below b1)).mono ?_
  rintro e wA ⟨g, rfl, hown, hA⟩
  have zA := hA.size
  have qB := row?_lt hB
  have a2 : row? wA (w.heap.size + 1) = some (bvs nonce) := by rw [row?_below hA (by omega)]; exact a1
  have aB : row? wA B = some (bvs (cipher key)) := by rw [row?_below hA qB]; exact hB
  have ab : Below w.heap.size w wA := b1.trans (hA.mono (by omega))
  have hg := hown.lt g rfl
  have hso : Sl wA (.slice (some ⟨g, 0, none⟩) text.length text.length) (enc key nonce text) :=
    Own.sl (l := enc key nonce text) (B := w1.heap.size) (e := 5) (by rw [enc_length]; exact hown)
  clear hA a1
  go_wp2_with fail
  refine (rtag_any key nonce (enc key nonce text) data hk hn (by rw [enc_length]; exact ht) hdl _ _ B _ aB hso (hd.below ab)).mono ?_
  rintro e wB ⟨rfl, hB'⟩
  have zB := hB'.size
  have bb : Below w.heap.size w wB := ab.trans (hB'.mono (by omega))
  have HO2 := Lib.hid (own_same (w' := wB.alloc (.cells (bvs (tag key nonce (enc key nonce text) data)) 22)) hown (by rw [heap_alloc_old _ _ (by omega)]; exact hB'.block g (by omega)))
  have ht16 : (tag key nonce (enc key nonce text) data).length = 16 := tag_length _ _ _ _
  clear hB' hown hso a2 aB
  generalize hT : tag key nonce (enc key nonce text) data = T at *
  go_wp2_with (at_builtin; refine wpList_append_own _ rfl _ _ 24 rfl w1.heap.size 5 i0 (.int .u8 0) 1 1 Try.underlying24 hi hz0 hz1 hz2 rfl (by decide) _ text.length _ rfl HO2.out ⟨_, 0, none⟩ 16 16 (T.map bv) rfl (by simp [ht16]) ?c1 ?c2 ?c3 ?c4 ?c5 ?_)
  case c1 =>
    intro j u hj
    have hjl : j < 16 := by have := (List.getElem?_eq_some_iff.1 hj).1; simpa [ht16] using this
    rw [Addr.add_lit, row?_cell (row?_alloc_at wB (bvs T) 22 _ rfl), bvs_getElem?, Nat.zero_add, if_pos (by omega), ← hj]
    simp [nth, bv, n8, show j < T.length by omega]
  case c2 => exact map_bv_one _
  case c3 => unfold maxLen; omega
  case c4 => omega
  case c5 => simp; omega
  intro v' w2 hown2 hgrow2 _
  have kb : Below w.heap.size w w2 := (bb.alloc (by have := bb.size; omega) _).grown hgrow2 (by have := bb.size; simp; omega) (by intro j hj; cases hj; show w.heap.size ≤ g; omega)
  have hown3 : w2.ownsRow w.heap.size 5 1 v' (text.length + 16) ((sealed key nonce text data).map bv) := by
    have e : (sealed key nonce text data).map bv = (enc key nonce text).map bv ++ T.map bv := by rw [sealed, hT, List.map_append]
    rw [e]
    exact own_lower hown2 (by omega)
  clear hown2 hgrow2 HO2
  have H3 := Lib.hid hown3
  clear hown3
  go_wp2_with fail
  go_ret
  exact ⟨_, rfl, H3.out, kb⟩

set_option maxRecDepth 20000 in
set_option maxHeartbeats 1000000 in
theorem ropen_any (key nonce s data : List UInt8) (hk : key.length = 16) (hn : nonce.length = 12) (ht : s.length ≤ 1000000) (hdl : data.length ≤ 1000000) (vs vd : Value) (w : World) (hs : Sl w vs s) (hd : Sl w vd data) :
    Calls Try.prog 14 #[.agg (bvs key), .agg (bvs nonce), vs, vd] w fun e w' =>
      ∃ v, e = .returned (.tuple #[v, .int .i64 ((opened key nonce s data).1 : Nat)]) ∧ w'.ownsRow w.heap.size 5 1 v (opened key nonce s data).2.length ((opened key nonce s data).2.map bv) ∧ Below w.heap.size w w' := by
  have hs0 := hs
  obtain ⟨ao, cap, rfl, hc, hnn, hp⟩ := hs0
  by_cases hshort : s.length < 16
  · have e : opened key nonce s data = (3, []) := by unfold opened; rw [if_pos hshort]
    rw [e]
    clear e hp
    go_enter Try.func14, Try.ntmps14
    go_wp2_with fail
    go_ret2
    exact ⟨_, rfl, World.ownsRow_nil _ _ _ _, bel2 w _ _⟩
  · obtain ⟨m, hm⟩ : ∃ m, s.length = m + 16 := ⟨s.length - 16, by omega⟩
    obtain ⟨b, off, rfl, hcell⟩ := hp (by omega)
    have hcm := hs.cut 0 m (by omega) (by omega)
    rw [List.drop_zero, Nat.sub_zero, Nat.sub_zero] at hcm
    have hcl := hs.cut m s.length (by omega) (Nat.le_refl _)
    rw [List.take_length, show s.length - m = 16 by omega] at hcl
    have hcA : cutA (some ⟨b, off, none⟩) 0 cap = some ⟨b, off, none⟩ := by unfold cutA; split <;> simp [Addr.add_lit]
    rw [hcA] at hcm
    have hcut : ∀ W, (Instr.sliceAt 24 (.slice (some ⟨b, off, none⟩) s.length cap) none (some (.int .i64 (m : Nat))) none).run Try.prog W = .ok (.slice (some ⟨b, off, none⟩) m cap) W := fun W => by
      rw [cut_h TB W _ _ _ _ _ (by omega) (by omega), hcA]; rfl
    have hcut2 : ∀ W, (Instr.sliceAt 24 (.slice (some ⟨b, off, none⟩) s.length cap) (some (.int .i64 (m : Nat))) none none).run Try.prog W = .ok (.slice (cutA (some ⟨b, off, none⟩) m cap) 16 (cap - m)) W := fun W => by
      rw [cut_l TB W _ _ _ _ _ (by omega) (by omega)]
      show Result.ok (Value.slice (cutA (some ⟨b, off, none⟩) m cap) (s.length - m) (cap - m)) W = _
      rw [show s.length - m = 16 by omega]
    generalize cutA (some ⟨b, off, none⟩) m cap = aC at *
    have hop : opened key nonce s data = if tag key nonce (s.take m) data = s.drop m then (0, enc key nonce (s.take m)) else (7, []) := by
      unfold opened; rw [if_neg hshort, show s.length - 16 = m by omega]
    have hmm : (s.length : Int) - 16 = (m : Nat) := by omega
    have htm : (s.take m).length = m := by rw [List.length_take]; omega
    have HP := Lib.hid hop
    have HM := Lib.hid hm
    clear hcell hp hop hm hnn
    go_enter Try.func14, Try.ntmps14
    go_wp2_with fail
    refine (rnew_any key hk _).mono ?_
    rintro e w1 ⟨B, rfl, hB, hBl, h1⟩
    have z1 := h1.size
    simp at z1 hBl
    have qB := row?_lt hB
    have w1n : row? w1 (w.heap.size + 1) = some (bvs nonce) := by rw [row?_below h1 (by simp)]; simp [go_sem]
    have bW : Below w.heap.size w w1.drew := ((bel2 w _ _).trans (h1.mono (by simp; omega))).drew
    clear h1
    go_wp2_with fail
    refine Rg.wp_region_flo [(0, 3), (1, 0), (2, 3), (3, 3), (4, 3), (5, 3)] [
        ⟨6, 26, [], false, fun v _ => v = .agg (bvs (tag key nonce (s.take m) data))⟩,
        ⟨7, 12, [], true, fun v w' => ∃ B, v = .pointer (some ⟨B, 0, none⟩) ∧ row? w' B = some (bvs (zeros 16))⟩] [(6, 26, []), (7, 12, [])] [8] (by kernel_rfl) (by kernel_rfl) rfl ?_
    simp only [Rg.row, Rg.PT.map, List.getD_cons_zero, List.getD_cons_succ]
    go_wp2_with (first
      | ((with_reducible refine Rg.plan_pure ?_ ?_ ?_); kernel_rfl; kernel_rfl; intro _ _)
      | ((with_reducible refine Rg.plan_take ?_ ?_ ?_); kernel_rfl; kernel_rfl; intro _ _)
      | ((with_reducible refine Rg.plan_keep ?_ ?_); kernel_rfl; intro K hK)
      | (refine hK _ _ (Rg.Keep.refl _) ?_; clear hK)
      | (refine hK _ _ (Rg.Keep.of_below (by assumption)) ?_; clear hK)
      | ((with_reducible refine Rg.plan_skip ?_ ?_); kernel_rfl)
      | (with_reducible refine Rg.plan_done ?_)
      | (with_reducible refine Rg.calm_normal ?_))
    have wn2 : row? w1.drew (w.heap.size + 1) = some (bvs nonce) := w1n
    have hB2 : row? w1.drew B = some (bvs (cipher key)) := hB
    refine Rg.phase_done (Rg.Phase.mk ?_ ?_ ?_)
    · refine List.forall_mem_cons.2 ⟨?_, List.forall_mem_cons.2 ⟨?_, fun r hr => (by cases hr)⟩⟩
      · exact fun v w1 w2 _ h => h
      · rintro v w1 w2 hb ⟨B, e, h⟩; exact ⟨B, e, Rg.stable_row hb h⟩
    · refine List.forall_mem_cons.2 ⟨?_, List.forall_mem_cons.2 ⟨?_, fun r hr => (by cases hr)⟩⟩
      · intro us wx hbx hdep K hK
        have hbw := bW.trans (hbx.mono bW.size)
        obtain ⟨ao2, cap2, rfl, _⟩ := id hd
        refine Rg.exec_call (args := #[.pointer (some ⟨B, 0, none⟩), .agg (bvs nonce), .slice (some ⟨b, off, none⟩) m cap, .slice ao2 data.length cap2]) (by simp [go_sem, execOp, Rg.puts]) (rtag_any key nonce (s.take m) data hk hn (by omega) hdl _ _ B _ (Rg.stable_row hbx hB2) (hcm.below hbw) (hd.below hbw)) ?_
        rintro e wy ⟨rfl, hy⟩
        exact ⟨_, rfl, hK _ _ _ rfl rfl hy (fun h => (by cases h))⟩
      · intro us wx hbx hdep K hK
        exact Rg.exec_value (by simp [go_sem, execOp, Rg.puts]; rfl) (hK _ _ _ rfl ⟨_, rfl, row?_alloc_at _ _ _ _ rfl⟩ ((Below.refl _ _).alloc (Nat.le_refl _) _) (fun _ => ⟨Nat.le_refl _, by simp [Rg.vblk]⟩))
    · intro us wZ hbZ hJ hfr hne
      have hfr0 : w1.drew.heap.size ≤ Rg.vblk (us 7) := (hfr _ (List.getElem_mem (n := 1) (by simp)) rfl).1
      simp only [List.forall_mem_cons] at hJ
      obtain ⟨e6, ⟨BT, e7, rT⟩, -⟩ := hJ
      simp only [e7, Rg.vblk] at hfr0
      simp at hfr0
      have z1 : row? wZ (w.heap.size + 1) = some (bvs nonce) := Rg.stable_row hbZ wn2
      have zB : row? wZ B = some (bvs (cipher key)) := Rg.stable_row hbZ hB2
      have zb : Below w.heap.size w wZ := bW.trans (hbZ.mono bW.size)
      generalize hT : tag key nonce (s.take m) data = T at *
      have hTl : T.length = 16 := by rw [← hT]; exact tag_length _ _ _ _
      simp only [Rg.puts, List.map_cons, List.map_nil, List.getD_cons_zero, List.getD_cons_succ]
      simp only [e6, e7]
      have E1 : row? (wZ.setRow BT (bvs T)) BT = some (bvs T) := row?_setRow_eq rT (c' := bvs T)
      have E2 : row? (wZ.setRow BT (bvs T)) B = some (bvs (cipher key)) := by rw [row?_setRow_ne _ _ _ _ (by omega)]; exact zB
      have E3 : row? (wZ.setRow BT (bvs T)) (w.heap.size + 1) = some (bvs nonce) := by rw [row?_setRow_ne _ _ _ _ (by omega)]; exact z1
      have zE := below_setRow zb (by omega : w.heap.size ≤ BT) (bvs T)
      clear z1 zB hne hfr w1n wn2 hB hB2
      go_wp2_with (first
        | ((with_reducible refine Rg.plan_pure ?_ ?_ ?_); kernel_rfl; kernel_rfl; intro _ _)
        | ((with_reducible refine Rg.plan_take ?_ ?_ ?_); kernel_rfl; kernel_rfl; intro _ _)
        | ((with_reducible refine Rg.plan_keep ?_ ?_); kernel_rfl; intro K hK)
        | (refine hK _ _ (Rg.Keep.refl _) ?_; clear hK)
        | (refine hK _ _ (Rg.Keep.of_below (by assumption)) ?_; clear hK)
        | ((with_reducible refine Rg.plan_skip ?_ ?_); kernel_rfl)
        | (with_reducible refine Rg.plan_done ?_)
        | (with_reducible refine Rg.calm_normal ?_))
      clear rT
      refine Rg.wp_region_flo [(0, 3), (2, 3), (3, 3), (4, 3)] [
          ⟨1, 28, [], false, fun v _ => v = .string (strB T)⟩,
          ⟨5, 32, [], false, fun v _ => v = .string (strB (s.drop m))⟩,
          ⟨6, 33, [1, 5], false, fun v _ => v = .bool (!(T == s.drop m))⟩] [(1, 28, []), (5, 32, []), (6, 33, [1, 5])] [] (by kernel_rfl) (by kernel_rfl) rfl ?_
      simp only [Rg.row, Rg.PT.map, List.getD_cons_zero, List.getD_cons_succ]
      go_wp2_with (first
        | ((with_reducible refine Rg.plan_pure ?_ ?_ ?_); kernel_rfl; kernel_rfl; intro _ _)
        | ((with_reducible refine Rg.plan_take ?_ ?_ ?_); kernel_rfl; kernel_rfl; intro _ _)
        | ((with_reducible refine Rg.plan_keep ?_ ?_); kernel_rfl; intro K hK)
        | (refine hK _ _ (Rg.Keep.refl _) ?_; clear hK)
        | (refine hK _ _ (Rg.Keep.of_below (by assumption)) ?_; clear hK)
        | ((with_reducible refine Rg.plan_skip ?_ ?_); kernel_rfl)
        | (with_reducible refine Rg.plan_done ?_)
        | (with_reducible refine Rg.calm_normal ?_))
      refine Rg.phase_done (Rg.Phase.mk ?_ ?_ ?_)
      · refine List.forall_mem_cons.2 ⟨?_, List.forall_mem_cons.2 ⟨?_, List.forall_mem_cons.2 ⟨?_, fun r hr => (by cases hr)⟩⟩⟩ <;> exact fun v w1 w2 _ h => h
      · refine List.forall_mem_cons.2 ⟨?_, List.forall_mem_cons.2 ⟨?_, List.forall_mem_cons.2 ⟨?_, fun r hr => (by cases hr)⟩⟩⟩
        · intro us wx hbx hdep K hK
          have hsl := Sl.row (Rg.stable_row hbx (show row? (wZ.setRow BT (bvs T)).drew BT = some (bvs T) from E1))
          rw [hTl] at hsl
          exact Rg.exec_conv rfl (by simp [go_sem, Rg.puts]) (conv_sl hsl Try.underlying24 Try.underlying5 Try.underlying9) (hK _ _ _ rfl rfl (Below.refl _ _) (fun h => (by cases h)))
        · intro us wx hbx hdep K hK
          have hbw := zE.drew.trans (hbx.mono zE.drew.size)
          exact Rg.exec_conv rfl (by simp [go_sem, Rg.puts]) (conv_sl (hcl.below hbw) Try.underlying24 Try.underlying5 Try.underlying9) (hK _ _ _ rfl rfl (Below.refl _ _) (fun h => (by cases h)))
        · intro us wx hbx hdep K hK
          have d1 : us 1 = .string (strB T) := (List.forall_mem_cons.1 hdep).1 (by simp)
          have d2 : us 5 = .string (strB (s.drop m)) := (List.forall_mem_cons.1 (List.forall_mem_cons.1 hdep).2).1 (by simp)
          exact Rg.exec_value (w' := wx) (v := .bool (!(T == s.drop m))) (by simp [go_sem, execOp, Rg.puts, d1, d2]) (hK _ _ _ rfl rfl (Below.refl _ _) (fun h => (by cases h)))
      · intro us wY hbY hJ hfr hne
        simp only [List.forall_mem_cons] at hJ
        obtain ⟨d1, d2, d3, -⟩ := hJ
        simp only [Rg.puts, List.map_nil]
        simp only [d1, d2, d3]
        have F2 : row? wY B = some (bvs (cipher key)) := Rg.stable_row hbY (show row? (wZ.setRow BT (bvs T)).drew B = some (bvs (cipher key)) from E2)
        have F3 : row? wY (w.heap.size + 1) = some (bvs nonce) := Rg.stable_row hbY (show row? (wZ.setRow BT (bvs T)).drew (w.heap.size + 1) = some (bvs nonce) from E3)
        have FB := zE.drew.trans (hbY.mono zE.drew.size)
        clear hfr hne hbY E1 E2 E3 zE
        by_cases hx : T = s.drop m
        · have e : opened key nonce s data = (0, enc key nonce (s.take m)) := by rw [HP.out, if_pos hx]
          have HE := Lib.hid e
          have hxb : (T == s.drop m) = true := by simpa using hx
          rw [hxb]
          clear e hx hxb
          go_wp2_with (first
            | ((with_reducible refine Rg.plan_pure ?_ ?_ ?_); kernel_rfl; kernel_rfl; intro _ _)
            | ((with_reducible refine Rg.plan_take ?_ ?_ ?_); kernel_rfl; kernel_rfl; intro _ _)
            | ((with_reducible refine Rg.plan_keep ?_ ?_); kernel_rfl; intro K hK)
            | (refine hK _ _ (Rg.Keep.refl _) ?_; clear hK)
            | (refine hK _ _ (Rg.Keep.of_below (by assumption)) ?_; clear hK)
            | ((with_reducible refine Rg.plan_skip ?_ ?_); kernel_rfl)
            | (with_reducible refine Rg.plan_done ?_)
            | (with_reducible refine Rg.calm_normal ?_))
          refine Rg.wp_region_plan (Rg.row [(0, 3), (1, 0), (2, 3), (3, 3), (4, 3), (5, 1), (6, 3), (7, 3)] []) [] (by kernel_rfl) (by kernel_rfl) ?_
          simp only [Rg.row, Rg.PT.map, List.map_nil, List.getD_cons_zero, List.getD_cons_succ]
          go_wp2_with (first
            | ((with_reducible refine Rg.plan_pure ?_ ?_ ?_); kernel_rfl; kernel_rfl; intro _ _)
            | ((with_reducible refine Rg.plan_take ?_ ?_ ?_); kernel_rfl; kernel_rfl; intro _ _)
            | ((with_reducible refine Rg.plan_keep ?_ ?_); kernel_rfl; intro K hK)
            | (refine hK _ _ (Rg.Keep.refl _) ?_; clear hK)
            | (refine hK _ _ (Rg.Keep.of_below (by assumption)) ?_; clear hK)
            | ((with_reducible refine Rg.plan_skip ?_ ?_); kernel_rfl)
            | (with_reducible refine Rg.plan_done ?_)
            | (with_reducible refine Rg.calm_normal ?_))
          refine (turn_any key nonce (s.take m) hk hn (by omega) _ B wY.drew F2 (hcm.below FB.drew)).mono ?_
          rintro e wA ⟨g, rfl, hown, hA⟩
          have kb := FB.drew.trans (hA.mono FB.drew.size)
          refine hK _ _ (Rg.Keep.of_below hA) ?_
          clear hK
          have hown2 := own_lower hown FB.drew.size
          have HO := Lib.hid hown2
          clear hown hown2 hA
          go_wp2_with (first
            | ((with_reducible refine Rg.plan_pure ?_ ?_ ?_); kernel_rfl; kernel_rfl; intro _ _)
            | ((with_reducible refine Rg.plan_take ?_ ?_ ?_); kernel_rfl; kernel_rfl; intro _ _)
            | ((with_reducible refine Rg.plan_keep ?_ ?_); kernel_rfl; intro K hK)
            | (refine hK _ _ (Rg.Keep.refl _) ?_; clear hK)
            | (refine hK _ _ (Rg.Keep.of_below (by assumption)) ?_; clear hK)
            | ((with_reducible refine Rg.plan_skip ?_ ?_); kernel_rfl)
            | (with_reducible refine Rg.plan_done ?_)
            | (with_reducible refine Rg.calm_normal ?_))
          go_ret2
          rw [HE.out]
          refine ⟨_, rfl, ?_, kb⟩
          rw [enc_length]; exact HO.out
        · have e : opened key nonce s data = (7, []) := by rw [HP.out, if_neg hx]
          have HE := Lib.hid e
          have hxb : (T == s.drop m) = false := by simpa using hx
          rw [hxb]
          clear e hx hxb
          go_wp2_with (first
            | ((with_reducible refine Rg.plan_pure ?_ ?_ ?_); kernel_rfl; kernel_rfl; intro _ _)
            | ((with_reducible refine Rg.plan_take ?_ ?_ ?_); kernel_rfl; kernel_rfl; intro _ _)
            | ((with_reducible refine Rg.plan_keep ?_ ?_); kernel_rfl; intro K hK)
            | (refine hK _ _ (Rg.Keep.refl _) ?_; clear hK)
            | (refine hK _ _ (Rg.Keep.of_below (by assumption)) ?_; clear hK)
            | ((with_reducible refine Rg.plan_skip ?_ ?_); kernel_rfl)
            | (with_reducible refine Rg.plan_done ?_)
            | (with_reducible refine Rg.calm_normal ?_))
          go_ret2
          rw [HE.out]
          exact ⟨_, rfl, World.ownsRow_nil _ _ _ _, FB⟩
end Go.Proofs.Ytdfblojnkchpdaa
