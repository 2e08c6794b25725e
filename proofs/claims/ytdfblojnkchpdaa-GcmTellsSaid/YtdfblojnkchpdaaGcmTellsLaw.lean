/- The statement GcmTells holds: how any text is sealed, with any data beside it, and what any sealed bytes open to, is the document's. No condition. -/
import Derived.Test.YtdfblojnkchpdaaGcmL1
import Derived.Test.YtdfblojnkchpdaaGcmR5
import Derived.Test.YtdfblojnkchpdaaLawS
namespace Go.Proofs.Ytdfblojnkchpdaa
open Go.RowKit Go.Rw Aes Gcm Go.ChangeShapes Go.WideShapes Go.ChangeAt
attribute [local go_sem ↓] ld12 ld16 st16 al16 shift_shl8 shift_shr8 bvs_getElem?
attribute [local go_sem] rld12 rld16 rst16 ral16 setRow_alloc_at setRow_alloc_past setRow_drew bvs_setn

theorem enc_enc (key nonce text : List UInt8) : enc key nonce (enc key nonce text) = text := by
  apply ext16 (n := text.length) (by rw [enc_length, enc_length]) rfl
  intro i hi
  have e1 : nth (enc key nonce (enc key nonce text)) i = encF key nonce (enc key nonce text) i := by simp [nth, enc, hi]
  have e2 : nth (enc key nonce text) i = encF key nonce text i := by simp [nth, enc, hi]
  rw [e1, encF, e2, encF, UInt8.xor_assoc, UInt8.xor_self, UInt8.xor_zero]
theorem open_sealed (key nonce text data : List UInt8) : opened key nonce (sealed key nonce text data) data = (0, text) := by
  have hl : (sealed key nonce text data).length = text.length + 16 := sealed_length _ _ _ _
  have e1 : (sealed key nonce text data).take text.length = enc key nonce text := by
    rw [sealed, List.take_append_of_le_length (by rw [enc_length]; exact Nat.le_refl _), List.take_of_length_le (by rw [enc_length]; exact Nat.le_refl _)]
  have e2 : (sealed key nonce text data).drop text.length = tag key nonce (enc key nonce text) data := by
    rw [sealed, List.drop_append, List.drop_eq_nil_of_le (by rw [enc_length]; exact Nat.le_refl _), enc_length, Nat.sub_self, List.drop_zero, List.nil_append]
  unfold opened
  rw [if_neg (by omega), show (sealed key nonce text data).length - 16 = text.length by omega, e1, e2, if_pos rfl, enc_enc]

set_option maxRecDepth 20000 in
set_option maxHeartbeats 4000000 in
theorem tellsLaw_any (key nonce text data other : List UInt8) (hk : key.length = 16) (hn : nonce.length = 12) (vt vd vo : Value) (w : World) (hst : Sl w vt text) (hsd : Sl w vd data) (hso : Sl w vo other) :
    Calls Try.prog 3 #[.agg (bvs key), .agg (bvs nonce), vt, vd, vo] w fun e w' => e = .returned (.bool true) ∧ Below w.heap.size w w' := by
  have hst0 := hst
  have hsd0 := hsd
  have hso0 := hso
  obtain ⟨ao, cap, rfl, hc, hnn, hp⟩ := hst0
  obtain ⟨ao2, cap2, rfl, hc2, hnn2, hp2⟩ := hsd0
  obtain ⟨ao3, cap3, rfl, hc3, hnn3, hp3⟩ := hso0
  clear hnn hnn2 hnn3 hp hp2 hp3
  have early : ∀ e w', e = Ending.returned (.bool true) → Below ((w.alloc (.cells (bvs key) 22)).alloc (.cells (bvs nonce) 23)).heap.size ((w.alloc (.cells (bvs key) 22)).alloc (.cells (bvs nonce) 23)) w' → e = Ending.returned (.bool true) ∧ Below w.heap.size w w' :=
    fun e w' h hb => ⟨h, (bel2 w _ _).trans (hb.mono (by simp; omega))⟩
  by_cases h1 : text.length ≤ 120
  · by_cases h2 : data.length ≤ 120
    · by_cases h3 : other.length ≤ 120
      · clear early
        go_enter Try.func3, Try.ntmps3
        go_wp2_with fail
        refine (seal_any key nonce text data hk hn (by omega) (by omega) _ _ _ (hst.below (bel2 w _ _)) (hsd.below (bel2 w _ _))).mono ?_
        rintro e wA ⟨gx, rfl, hox, hA⟩
        have zA := hA.size
        simp at zA hox
        have aA : Below w.heap.size w wA := (bel2 w _ _).trans (hA.mono (by simp; omega))
        have a0 : row? wA w.heap.size = some (bvs key) := by rw [row?_below hA (by simp; omega)]; simp [go_sem]
        have a1 : row? wA (w.heap.size + 1) = some (bvs nonce) := by rw [row?_below hA (by simp)]; simp [go_sem]
        have hgx := hox.lt gx rfl
        clear hA
        have hSl : (sealed key nonce text data).length = text.length + 16 := sealed_length _ _ _ _
        have hopS := open_sealed key nonce text data
        have hOX := hox
        rw [← hSl] at hOX
        go_wp2_with fail
        refine (rseal_any key nonce text data hk hn (by omega) (by omega) _ _ _ (hst.below aA) (hsd.below aA)).mono ?_
        rintro e wB ⟨v2, rfl, ho2, hB⟩
        have zB := hB.size
        have aB : Below w.heap.size w wB := aA.trans (hB.mono (by omega))
        have b0 : row? wB w.heap.size = some (bvs key) := by rw [row?_below hB (by omega)]; exact a0
        have b1 : row? wB (w.heap.size + 1) = some (bvs nonce) := by rw [row?_below hB (by omega)]; exact a1
        have hoxB := own_same (w' := wB) hox (hB.block _ hgx.2)
        rw [← hSl] at ho2
        clear hB hox hOX a0 a1 aA
        have sx : Sl wB (.slice (some ⟨gx, 0, none⟩) (text.length + 16) (text.length + 16)) (sealed key nonce text data) := Own.sl (B := _) (e := 5) (by rw [hSl]; exact hoxB)
        go_wp2_with fail
        refine (same_any _ _ (by omega) _ _ _ sx (Own.sl ho2)).mono ?_
        rintro e wC ⟨rfl, hC⟩
        rw [decide_eq_true rfl]
        have zC := hC.size
        have aC : Below w.heap.size w wC := aB.trans (hC.mono (by omega))
        have c0 : row? wC w.heap.size = some (bvs key) := by rw [row?_below hC (by omega)]; exact b0
        have c1 : row? wC (w.heap.size + 1) = some (bvs nonce) := by rw [row?_below hC (by omega)]; exact b1
        have hoxC := own_same (w' := wC) hoxB (hC.block _ (by omega))
        have sxC : Sl wC (.slice (some ⟨gx, 0, none⟩) (text.length + 16) (text.length + 16)) (sealed key nonce text data) := Own.sl (B := _) (e := 5) (by rw [hSl]; exact hoxC)
        clear hC b0 b1 hoxB ho2 sx aB
        go_wp2_with fail
        refine (open_any key nonce (sealed key nonce text data) data hk hn (by omega) (by omega) _ _ _ sxC (hsd.below aC)).mono ?_
        rintro e wD ⟨va, rfl, hoa, hD⟩
        rw [hopS] at hoa ⊢
        have zD := hD.size
        have aD : Below w.heap.size w wD := aC.trans (hD.mono (by omega))
        have d0 : row? wD w.heap.size = some (bvs key) := by rw [row?_below hD (by omega)]; exact c0
        have d1 : row? wD (w.heap.size + 1) = some (bvs nonce) := by rw [row?_below hD (by omega)]; exact c1
        have hoxD := own_same (w' := wD) hoxC (hD.block _ (by omega))
        have hla := hoa.lt
        clear hD c0 c1 hoxC sxC aC
        go_wp2_with fail
        refine (open_any key nonce other data hk hn (by omega) (by omega) _ _ _ (hso.below aD) (hsd.below aD)).mono ?_
        rintro e wE ⟨vb, rfl, hob, hE⟩
        have zE := hE.size
        have aE : Below w.heap.size w wE := aD.trans (hE.mono (by omega))
        have e0 : row? wE w.heap.size = some (bvs key) := by rw [row?_below hE (by omega)]; exact d0
        have e1 : row? wE (w.heap.size + 1) = some (bvs nonce) := by rw [row?_below hE (by omega)]; exact d1
        have hoxE := own_same (w' := wE) hoxD (hE.block _ (by omega))
        have hoaE := own_below hoa hE
        clear hE d0 d1 hoxD hoa aD
        go_wp2_with fail
        refine (ropen_any key nonce other data hk hn (by omega) (by omega) _ _ _ (hso.below aE) (hsd.below aE)).mono ?_
        rintro e wF ⟨vc, rfl, hoc, hF⟩
        have zF := hF.size
        have aF : Below w.heap.size w wF := aE.trans (hF.mono (by omega))
        have f0 : row? wF w.heap.size = some (bvs key) := by rw [row?_below hF (by omega)]; exact e0
        have f1 : row? wF (w.heap.size + 1) = some (bvs nonce) := by rw [row?_below hF (by omega)]; exact e1
        have hoxF := own_same (w' := wF) hoxE (hF.block _ (by omega))
        have hoaF := own_below hoaE hF
        have hobF := own_below hob hF
        clear hF e0 e1 hoxE hoaE hob aE
        have hol : (opened key nonce other data).2.length ≤ 1000000 := by
          unfold opened
          split
          · simp
          · split
            · simp [enc_length]; omega
            · simp
        generalize opened key nonce other data = OO at *
        go_wp2_with fail
        refine (same_any text text (by omega) _ _ _ (Own.sl hoaF) (hst.below aF)).mono ?_
        rintro e wG ⟨rfl, hG⟩
        rw [decide_eq_true rfl]
        have zG := hG.size
        have aG : Below w.heap.size w wG := aF.trans (hG.mono (by omega))
        have g0 : row? wG w.heap.size = some (bvs key) := by rw [row?_below hG (by omega)]; exact f0
        have g1 : row? wG (w.heap.size + 1) = some (bvs nonce) := by rw [row?_below hG (by omega)]; exact f1
        have hoxG := own_same (w' := wG) hoxF (hG.block _ (by omega))
        have hoaG := own_below hoaF hG
        have hobG := own_below hobF hG
        have hocG := own_below hoc hG
        clear hG f0 f1 hoxF hoaF hobF hoc aF
        go_wp2_with fail
        refine (same_any OO.2 OO.2 hol _ _ _ (Own.sl hobG) (Own.sl hocG)).mono ?_
        rintro e wH ⟨rfl, hH⟩
        rw [decide_eq_true rfl]
        have zH := hH.size
        have aH : Below w.heap.size w wH := aG.trans (hH.mono (by omega))
        have h0 : row? wH w.heap.size = some (bvs key) := by rw [row?_below hH (by omega)]; exact g0
        have h1' : row? wH (w.heap.size + 1) = some (bvs nonce) := by rw [row?_below hH (by omega)]; exact g1
        have hoxH := own_same (w' := wH) hoxG (hH.block _ (by omega))
        have hoaH := own_below hoaG hH
        clear hH g0 g1 hoxG hoaG hobG hocG aG
        rw [← hSl] at hoxH
        go_wp2_with fail
        refine (over_any (sealed key nonce text data) (by omega) (.slice (some ⟨gx, 0, none⟩) (text.length + 16) (text.length + 16)) (w.heap.size + 1 + 1) wH (by omega) (by rw [hSl] at hoxH ⊢; exact hoxH)).mono ?_
        rintro e wI ⟨rfl, hI⟩
        have zI := hI.size
        have aI : Below w.heap.size w wI := aH.grown hI (by omega) (by intro k hk; cases hk; show w.heap.size ≤ gx; omega)
        have i0 : row? wI w.heap.size = some (bvs key) := row_grown hI h0 (by intro e; have e' : w.heap.size = gx := Option.some.inj e; omega)
        have i1 : row? wI (w.heap.size + 1) = some (bvs nonce) := row_grown hI h1' (by intro e; have e' : w.heap.size + 1 = gx := Option.some.inj e; omega)
        have hoaI := own_grown hoaH hI (by intro k hk e; cases e; have := (hla gx hk).1; omega)
        clear hI h0 h1' hoxH hoaH aH
        go_wp2_with fail
        refine (over_any text (by omega) va wC.heap.size wI (by omega) hoaI).mono ?_
        rintro e wJ ⟨rfl, hJ⟩
        have zJ := hJ.size
        have aJ : Below w.heap.size w wJ := aI.grown hJ (by omega) (by intro k hk; have := (hla k hk).1; omega)
        have j0 : row? wJ w.heap.size = some (bvs key) := row_grown hJ i0 (by intro e; have := (hla _ e.symm).1; omega)
        have j1 : row? wJ (w.heap.size + 1) = some (bvs nonce) := row_grown hJ i1 (by intro e; have := (hla _ e.symm).1; omega)
        clear hJ i0 i1 hoaI aI hla
        go_wp2_with fail
        refine Rg.wp_region_plan (Rg.row [(0, 3), (1, 3), (2, 0), (3, 0), (4, 3), (5, 3), (7, 0), (8, 0), (9, 3), (10, 3), (6, 1), (11, 1), (12, 1), (13, 3), (14, 3), (15, 1), (16, 3), (17, 3)] []) [] (by kernel_rfl) (by kernel_rfl) ?_
        simp only [Rg.row, Rg.PT.map, List.map_nil, List.getD_cons_zero, List.getD_cons_succ]
        go_wp2_with (first
          | ((with_reducible refine Rg.plan_pure ?_ ?_ ?_); kernel_rfl; kernel_rfl; intro _ _)
          | ((with_reducible refine Rg.plan_take ?_ ?_ ?_); kernel_rfl; kernel_rfl; intro _ _)
          | ((with_reducible refine Rg.plan_keep ?_ ?_); kernel_rfl; intro K hK)
          | (refine hK _ _ (Rg.Keep.refl _) ?_; clear hK)
          | (refine hK _ _ (Rg.Keep.of_below (by assumption)) ?_; clear hK)
          | ((with_reducible refine Rg.plan_skip ?_ ?_); kernel_rfl)
          | (with_reducible refine Rg.plan_done ?_)
          | (with_reducible refine Rg.calm_normal ?_))
        refine (seal_any key nonce text data hk hn (by omega) (by omega) _ _ _ (hst.below aJ.drew) (hsd.below aJ.drew)).mono ?_
        rintro e wK ⟨gk, rfl, hok, hK1⟩
        refine hK _ _ (Rg.Keep.of_below hK1) ?_
        clear hK
        have zK : wJ.heap.size ≤ wK.heap.size := hK1.size
        have aK : Below w.heap.size w wK := aJ.drew.trans (hK1.mono aJ.drew.size)
        have k0 : row? wK w.heap.size = some (bvs key) := Rg.stable_row hK1 j0
        have k1 : row? wK (w.heap.size + 1) = some (bvs nonce) := Rg.stable_row hK1 j1
        clear hK1 j0 j1 aJ
        rw [← hSl] at hok
        go_wp2_with (first
          | ((with_reducible refine Rg.plan_pure ?_ ?_ ?_); kernel_rfl; kernel_rfl; intro _ _)
          | ((with_reducible refine Rg.plan_take ?_ ?_ ?_); kernel_rfl; kernel_rfl; intro _ _)
          | ((with_reducible refine Rg.plan_keep ?_ ?_); kernel_rfl; intro K hK)
          | (refine hK _ _ (Rg.Keep.refl _) ?_; clear hK)
          | (refine hK _ _ (Rg.Keep.of_below (by assumption)) ?_; clear hK)
          | ((with_reducible refine Rg.plan_skip ?_ ?_); kernel_rfl)
          | (with_reducible refine Rg.plan_done ?_)
          | (with_reducible refine Rg.calm_normal ?_))
        refine (rseal_any key nonce text data hk hn (by omega) (by omega) _ _ _ (hst.below aK) (hsd.below aK)).mono ?_
        rintro e wL ⟨v5, rfl, ho5, hL⟩
        refine hK _ _ (Rg.Keep.of_below hL) ?_
        clear hK
        have zL := hL.size
        have aL : Below w.heap.size w wL := aK.trans (hL.mono aK.size)
        have hokL := own_below hok hL
        rw [← hSl] at ho5
        have s5 : Sl wL (.slice (some ⟨gk, 0, none⟩) (text.length + 16) (text.length + 16)) (sealed key nonce text data) := Own.sl (B := _) (e := 5) (by rw [hSl] at hokL ⊢; exact hokL)
        clear hL k0 k1 aK hok hokL
        go_wp2_with (first
          | ((with_reducible refine Rg.plan_pure ?_ ?_ ?_); kernel_rfl; kernel_rfl; intro _ _)
          | ((with_reducible refine Rg.plan_take ?_ ?_ ?_); kernel_rfl; kernel_rfl; intro _ _)
          | ((with_reducible refine Rg.plan_keep ?_ ?_); kernel_rfl; intro K hK)
          | (refine hK _ _ (Rg.Keep.refl _) ?_; clear hK)
          | (refine hK _ _ (Rg.Keep.of_below (by assumption)) ?_; clear hK)
          | ((with_reducible refine Rg.plan_skip ?_ ?_); kernel_rfl)
          | (with_reducible refine Rg.plan_done ?_)
          | (with_reducible refine Rg.calm_normal ?_))
        refine (same_any _ _ (by omega) _ _ _ s5 (Own.sl ho5)).mono ?_
        rintro e wM ⟨rfl, hM⟩
        rw [decide_eq_true rfl]
        refine hK _ _ (Rg.Keep.of_below hM) ?_
        clear hK
        have aM : Below w.heap.size w wM := aL.trans (hM.mono aL.size)
        clear hM s5 ho5 aL
        go_wp2_with (first
          | ((with_reducible refine Rg.plan_pure ?_ ?_ ?_); kernel_rfl; kernel_rfl; intro _ _)
          | ((with_reducible refine Rg.plan_take ?_ ?_ ?_); kernel_rfl; kernel_rfl; intro _ _)
          | ((with_reducible refine Rg.plan_keep ?_ ?_); kernel_rfl; intro K hK)
          | (refine hK _ _ (Rg.Keep.refl _) ?_; clear hK)
          | (refine hK _ _ (Rg.Keep.of_below (by assumption)) ?_; clear hK)
          | ((with_reducible refine Rg.plan_skip ?_ ?_); kernel_rfl)
          | (with_reducible refine Rg.plan_done ?_)
          | (with_reducible refine Rg.calm_normal ?_))
        refine (awake_any _).mono ?_
        rintro e wN ⟨rfl, hN⟩
        refine hK _ _ (Rg.Keep.of_below hN) ?_
        clear hK
        have aN : Below w.heap.size w wN := aM.trans (hN.mono aM.size)
        go_wp2_with (first
          | ((with_reducible refine Rg.plan_pure ?_ ?_ ?_); kernel_rfl; kernel_rfl; intro _ _)
          | ((with_reducible refine Rg.plan_take ?_ ?_ ?_); kernel_rfl; kernel_rfl; intro _ _)
          | ((with_reducible refine Rg.plan_keep ?_ ?_); kernel_rfl; intro K hK)
          | (refine hK _ _ (Rg.Keep.refl _) ?_; clear hK)
          | (refine hK _ _ (Rg.Keep.of_below (by assumption)) ?_; clear hK)
          | ((with_reducible refine Rg.plan_skip ?_ ?_); kernel_rfl)
          | (with_reducible refine Rg.plan_done ?_)
          | (with_reducible refine Rg.calm_normal ?_))
        go_ret
        exact ⟨rfl, aN⟩
      · skip
        go_enter Try.func3, Try.ntmps3
        go_wp2_with (go_at_call 9; refine (awake_any _).mono ?_; rintro e w' ⟨rfl, hb⟩)
        go_ret
        exact early _ _ rfl hb
    · skip
      go_enter Try.func3, Try.ntmps3
      go_wp2_with (go_at_call 9; refine (awake_any _).mono ?_; rintro e w' ⟨rfl, hb⟩)
      go_ret
      exact early _ _ rfl hb
  · skip
    go_enter Try.func3, Try.ntmps3
    go_wp2_with (go_at_call 9; refine (awake_any _).mono ?_; rintro e w' ⟨rfl, hb⟩)
    go_ret
    exact early _ _ rfl hb
namespace gcmTellsP
theorem own : ownKnob Try.prog.godebug = none := by kernel_rfl
theorem laidOut : laidOutB Try.prog = true := by kernel_rfl
theorem readable : (Try.f3.params.toList.all fun t => Try.prog.readableRec t && decide (t < Try.prog.types.size)) = true := by kernel_rfl
theorem contract (H : Type) (enc : TypeId × Value → H) (W : World) (base : Nat) (args : Array Value) (ds gs : List (DataW H)) (before : List MemPlace)
    (hval : ∀ (j : Nat) t v, Try.f3.params[j]? = some t → args[j]? = some v → Value.okWide Try.prog W .any base t v)
    (hW : DataW.Whole enc Try.prog Try.f3.params.toList Rows.gcmTellsSpec.vars false W args.toList ds gs before) :
    Calls Try.prog 3 args W fun e W' => ∃ v, e = .returned v ∧ Rows.gcmTellsSpec.post enc Try.prog Try.f3 false true false false W args v W' := by
  have hW' := hW
  obtain ⟨p, q, hA0, hV, rfl, hfz, hnd⟩ := hW
  have hA : DataW.TrodAll enc Try.prog W 0 (fun _ => true) true Try.f3.params.toList args.toList ds p := hA0
  rw [Try.params3] at hA hval
  obtain ⟨v0, vs0, d0, ds0, p0, q0, hargs, rfl, rfl, h0, r0⟩ := trodAll_cons hA
  obtain ⟨v1, vs1, d1, ds1, p1, q1, rfl, rfl, rfl, h1, r1⟩ := trodAll_cons r0
  obtain ⟨v2, vs2, d2, ds2, p2, q2, rfl, rfl, rfl, h2, r2⟩ := trodAll_cons r1
  obtain ⟨v3, vs3, d3, ds3, p3, q3, rfl, rfl, rfl, h3, r3⟩ := trodAll_cons r2
  obtain ⟨v4, vs4, d4, ds4, p4, q4, rfl, rfl, rfl, h4, r4⟩ := trodAll_cons r3
  obtain ⟨rfl, rfl, rfl⟩ := trodAll_nil r4
  obtain rfl : args = #[v0, v1, v2, v3, v4] := by cases args; simp_all
  obtain ⟨key, h_key, rfl⟩ := Law.open_bytes Try.underlying22 (by kernel_rfl) ⟨List.replicate 16 5, by kernel_rfl, by kernel_rfl⟩ Try.underlying5 (hval 0 22 v0 rfl rfl)
  obtain ⟨nonce, h_nonce, rfl⟩ := Law.open_bytes Try.underlying23 (by kernel_rfl) ⟨List.replicate 12 5, by kernel_rfl, by kernel_rfl⟩ Try.underlying5 (hval 1 23 v1 rfl rfl)
  obtain ⟨text, h_text⟩ := Law.open_slice Try.underlying24 Try.underlying5 (by kernel_rfl) (hval 2 24 v2 rfl rfl) h2
  obtain ⟨data, h_data⟩ := Law.open_slice Try.underlying24 Try.underlying5 (by kernel_rfl) (hval 3 24 v3 rfl rfl) h3
  obtain ⟨other, h_other⟩ := Law.open_slice Try.underlying24 Try.underlying5 (by kernel_rfl) (hval 4 24 v4 rfl rfl) h4
  refine (tellsLaw_any key nonce text data other h_key h_nonce v2 v3 v4 W h_text h_data h_other).mono fun e W' ⟨he, hb⟩ => ?_
  subst he
  exact ⟨_, rfl, Law.post_of_law laidOut readable hW' rfl hb rfl Try.underlying4 rfl rfl rfl⟩
set_option maxRecDepth 100000 in
theorem lifted (os : Os) (started : os.Started) (H : Type) (enc : TypeId × Value → H) :
    ReturnsInHanded {} Try.checked os 3 .any (Rows.gcmTellsSpec.pre6 enc Try.prog Try.f3 Rows.gcmTellsRow.domain false) (Rows.gcmTellsSpec.post enc Try.prog Try.f3 false true false false) := by
  refine returnsInHanded_of_change (C := Try.checked) own started (by kernel_rfl) Try.func3
    (ChangeSpec.witness6 (enc := enc) (C := Try.checked) false ⟨#[], #[.agg #[.int .u8 0, .int .u8 0, .int .u8 0, .int .u8 0, .int .u8 0, .int .u8 0, .int .u8 0, .int .u8 0, .int .u8 0, .int .u8 0, .int .u8 0, .int .u8 0, .int .u8 0, .int .u8 0, .int .u8 0, .int .u8 0], .agg #[.int .u8 0, .int .u8 0, .int .u8 0, .int .u8 0, .int .u8 0, .int .u8 0, .int .u8 0, .int .u8 0, .int .u8 0, .int .u8 0, .int .u8 0, .int .u8 0], .slice none 0 0, .slice none 0 0, .slice none 0 0], []⟩ 8 (by kernel_rfl) (by kernel_rfl) (by kernel_rfl) (by kernel_rfl)) ?_
  intro W base args ds gs before hval hW _ _
  exact contract H enc W base args ds gs before hval hW
theorem said : Rows.GcmTellsSaid :=
  OpenClaim.holds_of_wide 3 Try.f3 rfl rfl rfl rfl rfl rfl rfl ⟨rfl, rfl, rfl, rfl, rfl⟩ rfl rfl rfl rfl rfl (by kernel_rfl) Try.func3 (by kernel_rfl)
    (of_decide_eq_true (by kernel_rfl)) (by unfold Func.isWrapper; first | (rw [if_pos (by decide +kernel)]; kernel_rfl) | (rw [if_neg (by decide +kernel)]; exact ⟨rfl, rfl⟩))
    (fun os started H enc _ => lifted os started H enc)
end gcmTellsP
end Go.Proofs.Ytdfblojnkchpdaa
