/- The walks of what seals and what opens. -/
import Derived.Test.YtjlpppnpdgenfaaMvb8
namespace Go.Proofs.Ytjlpppnpdgenfaa
open Go.RowKit Go.Rw Aes Gcm
attribute [local go_sem ↓] ld12 ld16 st16 al16 ldW stW alW shift_shl8 shift_shr8 shift_shl64 shift_shr64 shift_shr32 bvs_getElem? wv_0 wv_1
attribute [local go_sem] rld12 rld16 rst16 ral16 rldW rstW ralW setRow_alloc_at setRow_alloc_past setRow_drew bvs_setn wv_set0 wv_set1
set_option maxRecDepth 100000 in
set_option maxHeartbeats 1000000 in
theorem seal_any (key nonce text data : List UInt8) (hk : key.length = 16) (hn : nonce.length = 12) (ht : text.length ≤ 1000000) (hdl : data.length ≤ 1000000) (vs vd : Value) (w : World) (hs : Sl w vs text) (hd : Sl w vd data) :
  Calls Try.prog 30 #[.agg (bvs key), .agg (bvs nonce), vs, vd] w fun e w' =>
   ∃ g, e = .returned (.slice (some ⟨g, 0, none⟩) (text.length + 16) (text.length + 16)) ∧ w'.ownsRow w.heap.size 5 1 (.slice (some ⟨g, 0, none⟩) (text.length + 16) (text.length + 16)) (text.length + 16) ((sealed key nonce text data).map bv) ∧ Below w.heap.size w w' := by
 obtain ⟨i0, hi, hz0, hz1, hz2⟩ := info_parts info8g
 go_enter Try.func30, Try.ntmps30
 go_wp2_with fail
 refine (cipher_any key nonce text hk hn ht _ _ (hs.below (bel2a w _ _))).mono ?_
 rintro e wA ⟨g, rfl, hown, hA⟩
 have zA := hA.size
 simp at zA hown
 have a0 : row? wA w.heap.size = some (bvs key) := by rw [row?_below hA (by simp; omega)]; simp [go_sem]
 have a1 : row? wA (w.heap.size + 1) = some (bvs nonce) := by rw [row?_below hA (by simp)]; simp [go_sem]
 have ab : Below w.heap.size w wA := (bel2a w _ _).trans (hA.mono (by simp; omega))
 have hg := hown.lt g rfl
 have hso : Sl wA (.slice (some ⟨g, 0, none⟩) text.length (text.length + 16)) (enc key nonce text) := by
  have := Own.sl (l := enc key nonce text) (v := .slice (some ⟨g, 0, none⟩) text.length (text.length + 16)) (w := wA) (B := w.heap.size + 1 + 1) (e := 5) (by rw [enc_length]; exact hown)
  exact this
 clear hA
 go_wp2_with fail
 refine (tag_any key nonce (enc key nonce text) data hk hn (by rw [enc_length]; exact ht) hdl _ _ _ hso (hd.below ab)).mono ?_
 rintro e wB ⟨rfl, hB⟩
 have zB := hB.size
 have bb : Below w.heap.size w wB := ab.trans (hB.mono (by omega))
 have HO2 := Lib.hid (own_same (w' := wB.alloc (.cells (bvs (tag key nonce (enc key nonce text) data)) 22)) hown (by rw [heap_alloc_old _ _ (by omega)]; exact hB.block g (by omega)))
 have ht16 : (tag key nonce (enc key nonce text) data).length = 16 := tag_length _ _ _ _
 clear hB hown hso a0 a1
 generalize hT : tag key nonce (enc key nonce text) data = T at *
 go_wp2_with (at_builtin; refine wpList_append_fits _ rfl _ _ 27 rfl (w.heap.size + 1 + 1) 5 i0 1 Try.underlying27 hi hz1 g text.length (text.length + 16) _ rfl HO2.out ⟨_, 0, none⟩ 16 16 (T.map bv) rfl (by simp [ht16]) ?c1 ?c2 ?c3 ?_)
 case c1 =>
  intro j u hj
  have hjl : j < 16 := by have := (List.getElem?_eq_some_iff.1 hj).1; simpa [ht16] using this
  rw [Addr.add_lit, row?_cell (row?_alloc_at wB (bvs T) 22 _ rfl), bvs_getElem?, Nat.zero_add, if_pos (by omega), ← hj]
  simp [nth, bv, n8, show j < T.length by omega]
 case c2 => exact map_bv_one _
 case c3 => omega
 intro w2 hown2 hgrow2
 have kb : Below w.heap.size w w2 := (bb.alloc (by have := bb.size; omega) _).grown hgrow2 (by have := bb.size; simp; omega) (by intro j hj; cases hj; omega)
 have hown3 : w2.ownsRow w.heap.size 5 1 (.slice (some ⟨g, 0, none⟩) (text.length + 16) (text.length + 16)) (text.length + 16) ((sealed key nonce text data).map bv) := by
  have e : (sealed key nonce text data).map bv = (enc key nonce text).map bv ++ T.map bv := by rw [sealed, hT, List.map_append]
  rw [e]
  exact own_lower hown2 (by omega)
 clear hown2 hgrow2 HO2
 have H3 := Lib.hid hown3
 clear hown3
 go_wp2_with fail
 go_ret
 exact ⟨g, rfl, H3.out, kb⟩
set_option maxRecDepth 100000 in
set_option maxHeartbeats 1000000 in
theorem open_any (key nonce s data : List UInt8) (hk : key.length = 16) (hn : nonce.length = 12) (ht : s.length ≤ 1000000) (hdl : data.length ≤ 1000000) (vs vd : Value) (w : World) (hs : Sl w vs s) (hd : Sl w vd data) :
  Calls Try.prog 40 #[.agg (bvs key), .agg (bvs nonce), vs, vd] w fun e w' =>
   ∃ v, e = .returned (.tuple #[v, .int .i64 ((opened key nonce s data).1 : Nat)]) ∧ w'.ownsRow w.heap.size 5 1 v (opened key nonce s data).2.length ((opened key nonce s data).2.map bv) ∧ Below w.heap.size w w' := by
 have hs0 := hs
 obtain ⟨ao, cap, rfl, hc, hnn, hp⟩ := hs0
 by_cases hshort : s.length < 16
 ·have e : opened key nonce s data = (3, []) := by unfold opened; rw [if_pos hshort]
  rw [e]
  clear e hp
  go_enter Try.func40, Try.ntmps40
  go_wp2_with fail
  go_ret2
  exact ⟨_, rfl, World.ownsRow_nil _ _ _ _, bel2a w _ _⟩
 ·obtain ⟨m, hm⟩ : ∃ m, s.length = m + 16 := ⟨s.length - 16, by omega⟩
  obtain ⟨b, off, rfl, hcell⟩ := hp (by omega)
  have hcm := hs.cut 0 m (by omega) (by omega)
  rw [List.drop_zero, Nat.sub_zero, Nat.sub_zero] at hcm
  have hcA : cutA (some ⟨b, off, none⟩) 0 cap = some ⟨b, off, none⟩ := by unfold cutA; split <;> simp [Addr.add_lit]
  rw [hcA] at hcm
  have hcut : ∀ W, (Instr.sliceAt 27 (.slice (some ⟨b, off, none⟩) s.length cap) none (some (.int .i64 (m : Nat))) none).run Try.prog W = .ok (.slice (some ⟨b, off, none⟩) m cap) W := fun W => by
   rw [cut_h TBg W _ _ _ _ _ (by omega) (by omega), hcA]; rfl
  have hop : opened key nonce s data = if tag key nonce (s.take m) data = s.drop m then (0, enc key nonce (s.take m)) else (7, []) := by
   unfold opened; rw [if_neg hshort, show s.length - 16 = m by omega]
  have hmm : (s.length : Int) - 16 = (m : Nat) := by omega
  have htm : (s.take m).length = m := by rw [List.length_take]; omega
  have HC := Lib.hid hcell
  have HP := Lib.hid hop
  have HM := Lib.hid hm
  clear hcell hp hop hm hnn
  go_enter Try.func40, Try.ntmps40
  go_wp2_with fail
  have bW : Below w.heap.size w ((w.alloc (.cells (bvs key) 22)).alloc (.cells (bvs nonce) 23)).drew := (bel2a w _ _).drew
  have w0 : row? ((w.alloc (.cells (bvs key) 22)).alloc (.cells (bvs nonce) 23)).drew w.heap.size = some (bvs key) := by simp [go_sem]
  have w1 : row? ((w.alloc (.cells (bvs key) 22)).alloc (.cells (bvs nonce) 23)).drew (w.heap.size + 1) = some (bvs nonce) := by simp [go_sem]
  refine Rg.wp_region_flo [(0, 0), (1, 0), (2, 3), (3, 3), (4, 3), (5, 3)] [
    ⟨6, 25, [], false, fun v _ => v = .agg (bvs (tag key nonce (s.take m) data))⟩,
    ⟨7, 11, [], true, fun v w' => ∃ B, v = .pointer (some ⟨B, 0, none⟩) ∧ row? w' B = some (bvs (zeros 16))⟩] [(6, 25, []), (7, 11, [])] [8] (by kernel_rfl) (by kernel_rfl) rfl ?_
  simp only [Rg.row, Rg.PT.map, List.getD_cons_zero, List.getD_cons_succ]
  go_wp2_with (first
   |(with_reducible refine Rg.plan_pure ?_ ?_ ?_); kernel_rfl; kernel_rfl; intro _ _|(with_reducible refine Rg.plan_take ?_ ?_ ?_); kernel_rfl; kernel_rfl; intro _ _|(with_reducible refine Rg.plan_keep ?_ ?_); kernel_rfl; intro K hK|refine hK _ _ (Rg.Keep.refl _) ?_; clear hK|refine hK _ _ (Rg.Keep.of_below (by assumption)) ?_; clear hK|(with_reducible refine Rg.plan_skip ?_ ?_); kernel_rfl|(with_reducible refine Rg.plan_done ?_)|(with_reducible refine Rg.calm_normal ?_))
  refine Rg.phase_done (Rg.Phase.mk ?_ ?_ ?_)
  ·refine List.forall_mem_cons.2 ⟨?_, List.forall_mem_cons.2 ⟨?_, fun r hr => (by cases hr)⟩⟩
   ·exact fun v w1 w2 _ h => h
   ·rintro v w1 w2 hb ⟨B, e, h⟩; exact ⟨B, e, Rg.stable_row hb h⟩
  ·refine List.forall_mem_cons.2 ⟨?_, List.forall_mem_cons.2 ⟨?_, fun r hr => (by cases hr)⟩⟩
   ·intro us wx hbx hdep K hK
    have hbw := bW.trans (hbx.mono bW.size)
    obtain ⟨ao2, cap2, rfl, _⟩ := id hd
    refine Rg.exec_call (args := #[.agg (bvs key), .agg (bvs nonce), .slice (some ⟨b, off, none⟩) m cap, .slice ao2 data.length cap2]) (by simp [go_sem, execOp, Rg.puts]) (tag_any key nonce (s.take m) data hk hn (by omega) hdl _ _ _ (hcm.below hbw) (hd.below hbw)) ?_
    rintro e wy ⟨rfl, hy⟩
    exact ⟨_, rfl, hK _ _ _ rfl rfl hy (fun h => (by cases h))⟩
   ·intro us wx hbx hdep K hK
    exact Rg.exec_value (by simp [go_sem, execOp, Rg.puts]; rfl) (hK _ _ _ rfl ⟨_, rfl, row?_alloc_at _ _ _ _ rfl⟩ ((Below.refl _ _).alloc (Nat.le_refl _) _) (fun _ => ⟨Nat.le_refl _, by simp [Rg.vblk]⟩))
  ·intro us wZ hbZ hJ hfr hne
   have hfr0 : ((w.alloc (.cells (bvs key) 22)).alloc (.cells (bvs nonce) 23)).drew.heap.size ≤ Rg.vblk (us 7) := (hfr _ (List.getElem_mem (n := 1) (by simp)) rfl).1
   simp only [List.forall_mem_cons] at hJ
   obtain ⟨e6, ⟨BT, e7, rT⟩, -⟩ := hJ
   simp only [e7, Rg.vblk] at hfr0
   simp at hfr0
   have z0 : row? wZ w.heap.size = some (bvs key) := Rg.stable_row hbZ w0
   have z1 : row? wZ (w.heap.size + 1) = some (bvs nonce) := Rg.stable_row hbZ w1
   have zb : Below w.heap.size w wZ := bW.trans (hbZ.mono bW.size)
   generalize hT : tag key nonce (s.take m) data = T at *
   have hTl : T.length = 16 := by rw [← hT]; exact tag_length _ _ _ _
   simp only [Rg.puts, List.map_cons, List.map_nil, List.getD_cons_zero, List.getD_cons_succ]
   simp only [e6, e7]
   have E1 := Lib.hid (row?_setRow_eq rT (c' := bvs T))
   have E2 := Lib.hid (show row? (wZ.setRow BT (bvs T)) w.heap.size = some (bvs key) by rw [row?_setRow_ne _ _ _ _ (by omega)]; exact z0)
   have E3 := Lib.hid (show row? (wZ.setRow BT (bvs T)) (w.heap.size + 1) = some (bvs nonce) by rw [row?_setRow_ne _ _ _ _ (by omega)]; exact z1)
   have zE := below_setRow zb (by omega : w.heap.size ≤ BT) (bvs T)
   clear z0 z1 w0 w1 hne hfr
   go_wp2_with (first
    |(with_reducible refine Rg.plan_pure ?_ ?_ ?_); kernel_rfl; kernel_rfl; intro _ _|(with_reducible refine Rg.plan_take ?_ ?_ ?_); kernel_rfl; kernel_rfl; intro _ _|(with_reducible refine Rg.plan_keep ?_ ?_); kernel_rfl; intro K hK|refine hK _ _ (Rg.Keep.refl _) ?_; clear hK|refine hK _ _ (Rg.Keep.of_below (by assumption)) ?_; clear hK|(with_reducible refine Rg.plan_skip ?_ ?_); kernel_rfl|(with_reducible refine Rg.plan_done ?_)|(with_reducible refine Rg.calm_normal ?_))
   clear rT
   go_loopw [12, 26] (fun x v wr => ∃ k : Nat, k ≤ 16 ∧ v = .int .i64 k ∧ x = .int .u8 (n8 (accX T s m k) : Nat) ∧ row? wr BT = some (bvs T) ∧ row? wr w.heap.size = some (bvs key) ∧ row? wr (w.heap.size + 1) = some (bvs nonce) ∧ Below w.heap.size w wr) (fun _ v _ => 16 - (intOf v).toNat)
   case atStart => exact ⟨0, by omega, rfl, rfl, E1.out, E2.out, E3.out, zE⟩
   case round =>
    obtain ⟨k, hk', rfl, rfl, h0, h1, h2, hb⟩ := hrel
    by_cases hlt : k < 16
    ·have H0 := Lib.hid h0
     have H1 := Lib.hid h1
     have H2 := Lib.hid h2
     have c0 := row?_cell h0
     have hm := HM.out
     have hck := below_cell hb (HC.out (m + k) (by omega)) (cell_lt (HC.out (m + k) (by omega)))
     clear h0 h1 h2
     go_wp2_with fail
     refine Rg.wp_region_plan (Rg.row [(0, 3), (1, 3), (2, 3), (3, 0), (4, 3), (5, 3), (6, 3), (7, 3), (8, 3), (9, 0), (10, 3), (11, 3), (12, 3)] []) [] (by kernel_rfl) (by kernel_rfl) ?_
     simp only [Rg.row, Rg.PT.map, List.map_nil, List.getD_cons_zero, List.getD_cons_succ]
     go_wp2_with (first
      |(with_reducible refine Rg.plan_pure ?_ ?_ ?_); kernel_rfl; kernel_rfl; intro _ _|(with_reducible refine Rg.plan_take ?_ ?_ ?_); kernel_rfl; kernel_rfl; intro _ _|(with_reducible refine Rg.plan_keep ?_ ?_); kernel_rfl; intro K hK|refine hK _ _ (Rg.Keep.refl _) ?_; clear hK|refine hK _ _ (Rg.Keep.of_below (by assumption)) ?_; clear hK|(with_reducible refine Rg.plan_skip ?_ ?_); kernel_rfl|(with_reducible refine Rg.plan_done ?_)|(with_reducible refine Rg.calm_normal ?_))
     go_roundw
     case rel => exact ⟨k + 1, by omega, by go_num, rfl, by rw [row?_drew]; exact H0.out, by rw [row?_drew]; exact H1.out, by rw [row?_drew]; exact H2.out, hb.drew⟩
     case measure => simp [intOf]; omega
    ·have h16 : k = 16 := by omega
     have hfull := accX_full T s m hTl HM.out
     rw [← h16] at hfull
     clear h16
     cases hx : (accX T s m k != 0)
     ·have hx0 : accX T s m k = 0 := by simpa using hx
      have e : opened key nonce s data = (0, enc key nonce (s.take m)) := by rw [HP.out, if_pos (hfull.1 hx0)]
      have HE := Lib.hid e
      clear hfull e hx0
      go_wp2_with fail
      refine Rg.wp_region_plan (Rg.row [(0, 0), (1, 0), (2, 3), (3, 3), (4, 3), (5, 1), (6, 3), (7, 3)] []) [] (by kernel_rfl) (by kernel_rfl) ?_
      simp only [Rg.row, Rg.PT.map, List.map_nil, List.getD_cons_zero, List.getD_cons_succ]
      go_wp2_with (first
       |(with_reducible refine Rg.plan_pure ?_ ?_ ?_); kernel_rfl; kernel_rfl; intro _ _|(with_reducible refine Rg.plan_take ?_ ?_ ?_); kernel_rfl; kernel_rfl; intro _ _|(with_reducible refine Rg.plan_keep ?_ ?_); kernel_rfl; intro K hK|refine hK _ _ (Rg.Keep.refl _) ?_; clear hK|refine hK _ _ (Rg.Keep.of_below (by assumption)) ?_; clear hK|(with_reducible refine Rg.plan_skip ?_ ?_); kernel_rfl|(with_reducible refine Rg.plan_done ?_)|(with_reducible refine Rg.calm_normal ?_))
      refine (cipher_any key nonce (s.take m) hk hn (by omega) _ _ (hcm.below hb.drew)).mono ?_
      rintro e wA ⟨g, rfl, hown, hA⟩
      have kb := hb.drew.trans (hA.mono hb.drew.size)
      refine hK _ _ (Rg.Keep.of_below hA) ?_
      clear hK
      have hown2 := own_lower hown hb.drew.size
      have HO := Lib.hid hown2
      clear hown hown2 hA
      go_wp2_with (first
       |(with_reducible refine Rg.plan_pure ?_ ?_ ?_); kernel_rfl; kernel_rfl; intro _ _|(with_reducible refine Rg.plan_take ?_ ?_ ?_); kernel_rfl; kernel_rfl; intro _ _|(with_reducible refine Rg.plan_keep ?_ ?_); kernel_rfl; intro K hK|refine hK _ _ (Rg.Keep.refl _) ?_; clear hK|refine hK _ _ (Rg.Keep.of_below (by assumption)) ?_; clear hK|(with_reducible refine Rg.plan_skip ?_ ?_); kernel_rfl|(with_reducible refine Rg.plan_done ?_)|(with_reducible refine Rg.calm_normal ?_))
      go_ret2
      rw [HE.out]
      refine ⟨_, rfl, ?_, kb⟩
      rw [enc_length]; exact HO.out
     ·have hx0 : ¬ accX T s m k = 0 := by simpa using hx
      have e : opened key nonce s data = (7, []) := by rw [HP.out, if_neg (fun h => hx0 (hfull.2 h))]
      have HE := Lib.hid e
      clear hfull e hx0
      go_wp2_with fail
      go_ret2
      rw [HE.out]
      exact ⟨_, rfl, World.ownsRow_nil _ _ _ _, hb⟩
end Go.Proofs.Ytjlpppnpdgenfaa
