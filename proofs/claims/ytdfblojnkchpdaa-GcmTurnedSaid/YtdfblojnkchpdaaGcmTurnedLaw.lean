/- The statement GcmTurned holds: what is sealed opens with just its own data and nonce; with a bit of any of these, or of it, turned it opens just if the document says so. No condition. -/
import Derived.Test.YtdfblojnkchpdaaGcmL1
import Derived.Test.YtdfblojnkchpdaaGcmR5
import Derived.Test.YtdfblojnkchpdaaLow
import Derived.Test.YtdfblojnkchpdaaLawS
namespace Go.Proofs.Ytdfblojnkchpdaa
open Go.RowKit Go.Rw Aes Gcm Go.ChangeShapes Go.WideShapes Go.ChangeAt
attribute [local go_sem ↓] ld12 ld16 st16 al16 shift_shl8 shift_shr8 bvs_getElem?
attribute [local go_sem] rld12 rld16 rst16 ral16 setRow_alloc_at setRow_alloc_past setRow_drew bvs_setn

theorem own_lit {w : World} {B : Nat} {e : TypeId} {v : Value} {n : Nat} {xs : List Value} (h : w.ownsRow B e 1 v n xs) (h0 : 0 < n) : ∃ g cap, v = .slice (some ⟨g, 0, none⟩) n cap := by
  rcases h.2 with ⟨_, h'⟩ | ⟨g, cap, cur, rfl, _⟩
  · omega
  · exact ⟨g, cap, rfl⟩
theorem own_cell {w : World} {B : Nat} {e : TypeId} {g n cap : Nat} {l : List UInt8} (h : w.ownsRow B e 1 (.slice (some ⟨g, 0, none⟩) n cap) n (l.map bv)) (hl : l.length = n) (k : Nat) (hk : k < n) : w.cell? ⟨g, k, none⟩ = some (.int .u8 (n8 (nth l k) : Nat)) := by
  rw [h.cellAt k (by omega)]
  simp [nth, bv, n8, show k < l.length by omega]

set_option maxRecDepth 20000 in
set_option maxHeartbeats 2000000 in
theorem turnedLaw_any (key nonce text data : List UInt8) (which bit : Int) (hk : key.length = 16) (hn : nonce.length = 12) (vt vd : Value) (w : World) (hst : Sl w vt text) (hsd : Sl w vd data) :
    Calls Try.prog 4 #[.agg (bvs key), .agg (bvs nonce), vt, vd, .int .i64 which, .int .i64 bit] w fun e w' => e = .returned (.bool true) ∧ Below w.heap.size w w' := by
  have hst0 := hst
  have hsd0 := hsd
  obtain ⟨ao, cap, rfl, hc, hnn, hp⟩ := hst0
  obtain ⟨ao2, cap2, rfl, hc2, hnn2, hp2⟩ := hsd0
  clear hnn hnn2 hp hp2
  have early : ∀ e w', e = Ending.returned (.bool true) → Below ((w.alloc (.cells (bvs key) 22)).alloc (.cells (bvs nonce) 23)).heap.size ((w.alloc (.cells (bvs key) 22)).alloc (.cells (bvs nonce) 23)) w' → e = Ending.returned (.bool true) ∧ Below w.heap.size w w' :=
    fun e w' h hb => ⟨h, (bel2 w _ _).trans (hb.mono (by simp; omega))⟩
  by_cases h1 : text.length ≤ 60
  · by_cases h2 : data.length ≤ 60
    · clear early
      go_enter Try.func4, Try.ntmps4
      go_wp2_with fail
      refine (seal_any key nonce text data hk hn (by omega) (by omega) _ _ _ (hst.below (bel2 w _ _)) (hsd.below (bel2 w _ _))).mono ?_
      rintro e wA ⟨gx, rfl, hox, hA⟩
      have zA := hA.size
      simp at zA hox
      have aA : Below w.heap.size w wA := (bel2 w _ _).trans (hA.mono (by simp; omega))
      have a0 : row? wA w.heap.size = some (bvs key) := by rw [row?_below hA (by simp; omega)]; simp [go_sem]
      have a1 : row? wA (w.heap.size + 1) = some (bvs nonce) := by rw [row?_below hA (by simp)]; simp [go_sem]
      have hgx := hox.lt gx rfl
      clear hA
      have hSl : (sealed key nonce text data).length = text.length + 16 := sealed_length _ _ _ _
      generalize sealed key nonce text data = S at *
      go_wp2_with fail
      refine (copied_any data (by omega) _ wA (hsd.below aA)).mono ?_
      rintro e wB ⟨vd2, rfl, hod, hB⟩
      have zB := hB.size
      have aB : Below w.heap.size w wB := aA.trans (hB.mono (by omega))
      have b0 : row? wB w.heap.size = some (bvs key) := by rw [row?_below hB (by omega)]; exact a0
      have b1 : row? wB (w.heap.size + 1) = some (bvs nonce) := by rw [row?_below hB (by omega)]; exact a1
      have hoxB := own_same (w' := wB) hox (hB.block _ hgx.2)
      have hld := hod.lt
      clear hB hox a0 a1 aA
      have sx : Sl wB (.slice (some ⟨gx, 0, none⟩) (text.length + 16) (text.length + 16)) S := Own.sl (B := _) (e := 5) (by rw [hSl]; exact hoxB)
      go_wp2_with fail
      refine (copied_any S (by omega) _ wB sx).mono ?_
      rintro e wC ⟨vs2, rfl, hos, hC⟩
      have zC := hC.size
      have aC : Below w.heap.size w wC := aB.trans (hC.mono (by omega))
      have c0 : row? wC w.heap.size = some (bvs key) := by rw [row?_below hC (by omega)]; exact b0
      have c1 : row? wC (w.heap.size + 1) = some (bvs nonce) := by rw [row?_below hC (by omega)]; exact b1
      have hodC := own_below hod hC
      have hls := hos.lt
      clear hC hod b0 b1 hoxB sx aB
      obtain ⟨gs, caps, rfl⟩ := own_lit hos (by omega)
      have hgs := hls gs rfl
      have hbdd : ∀ aod nd capd, vd2 = .slice (some aod) nd capd → wA.heap.size ≤ aod.block ∧ aod.block < wB.heap.size := fun aod nd capd e => hld aod.block (by rw [e]; rfl)
      obtain ⟨aod, capd, rfl, hcd, hnd, hpd⟩ := Own.sl hodC
      rw [hSl] at hos ⊢
      go_wp2_with fail
      refine (low_any bit 8 (by decide) (by decide) _).mono ?_
      rintro e wC' ⟨rfl, rfl⟩
      have hby : (2 : Int) ^ low bit 8 % 256 = ((n8 (UInt8.ofNat (2 ^ low bit 8)) : Nat) : Int) := by rw [← mod_byte]; push_cast; rfl
      generalize UInt8.ofNat (2 ^ low bit 8) = by8 at *
      have hl8 := low_lt bit 8 (by decide)
      generalize low bit 8 = b8 at *
      have HC0 := Lib.hid c0
      have HC1 := Lib.hid c1
      have HOD := Lib.hid hodC
      have HOS := Lib.hid hos
      clear hodC hos hls hld
      go_wp2_with fail
      rw [hby]
      clear hby
      refine (low_any which 3 (by decide) (by decide) _).mono ?_
      rintro e wC' ⟨rfl, rfl⟩
      have hl3 := low_lt which 3 (by decide)
      generalize hw : low which 3 = w3 at *
      have HW := Lib.hid hw
      clear hw
      have hw3 : w3 = 0 ∨ w3 = 1 ∨ w3 = 2 := by omega
      rcases hw3 with rfl | rfl | rfl
      · skip
        go_wp2_with fail
        refine (low_any _ 12 (by decide) (by decide) _).mono ?_
        rintro e wC' ⟨rfl, rfl⟩
        have hlq := low_lt (wrap64 (bit.tdiv 8)) 12 (by decide)
        generalize low (wrap64 (bit.tdiv 8)) 12 = q at *
        have k0 : row? (wC.setCell ⟨w.heap.size + 1, q, none⟩ (.int .u8 (n8 (nth nonce q ^^^ by8) : Nat))) w.heap.size = some (bvs key) := by rw [row?_setCell_ne _ _ _ _ (by simp <;> omega)]; exact HC0.out
        have k1 : row? (wC.setCell ⟨w.heap.size + 1, q, none⟩ (.int .u8 (n8 (nth nonce q ^^^ by8) : Nat))) (w.heap.size + 1) = some (bvs (nonce.set q (nth nonce q ^^^ by8))) := by rw [row?_setCell_eq HC1.out, bvs_setn]
        have oS := own_same (w' := wC.setCell ⟨w.heap.size + 1, q, none⟩ (.int .u8 (n8 (nth nonce q ^^^ by8) : Nat))) HOS.out (by rw [heap_setCell_other _ _ _ _ (by simp <;> omega)])
        have oD := own_grown (w' := wC.setCell ⟨w.heap.size + 1, q, none⟩ (.int .u8 (n8 (nth nonce q ^^^ by8) : Nat))) (r := some (w.heap.size + 1)) HOD.out ⟨rfl, rfl, rfl, by simp, fun b _ hne => heap_setCell_other _ _ _ _ (by simp; intro e; exact hne (by rw [e]))⟩ (by intro k hk e; have := (HOD.out.lt k hk).1; have e' := Option.some.inj e; omega)
        have aT : Below w.heap.size w (wC.setCell ⟨w.heap.size + 1, q, none⟩ (.int .u8 (n8 (nth nonce q ^^^ by8) : Nat))) := aC.setCell (by simp <;> omega) _
        have c1' := row?_cell HC1.out
        have f1' := row?_frozen HC1.out
        have hnl : (nonce.set q (nth nonce q ^^^ by8)).length = 12 := by simp [hn]
        have hsl : (S).length = text.length + 16 := by simp [hSl]
        have hdl : (data).length = data.length := by simp
        have sS : Sl (wC.setCell ⟨w.heap.size + 1, q, none⟩ (.int .u8 (n8 (nth nonce q ^^^ by8) : Nat))) (.slice (some ⟨gs, 0, none⟩) (text.length + 16) caps) (S) := Own.sl (B := _) (e := 5) (by rw [hsl]; exact oS)
        have sD : Sl (wC.setCell ⟨w.heap.size + 1, q, none⟩ (.int .u8 (n8 (nth nonce q ^^^ by8) : Nat))) (.slice (aod) data.length capd) (data) := Own.sl (B := _) (e := 5) (by rw [hdl]; exact oD)
        have N1 := Lib.hid k1
        generalize nonce.set q (nth nonce q ^^^ by8) = NN at *
        generalize S = SS at *
        generalize data = DD at *
        clear oS oD HC0 HC1 HOD HOS
        go_wp2_with fail
        refine (open_any key NN SS DD hk hnl (by omega) (by omega) _ _ _ sS sD).mono ?_
        rintro e wP ⟨va, rfl, hoa, hP⟩
        have zP := hP.size
        have aP : Below w.heap.size w wP := aT.trans (hP.mono aT.size)
        have p0 : row? wP w.heap.size = some (bvs key) := Rg.stable_row hP k0
        have p1 : row? wP (w.heap.size + 1) = some (bvs NN) := Rg.stable_row hP k1
        have sS2 := sS.below hP
        have sD2 := sD.below hP
        clear hP k0 k1 N1 sS sD aT
        go_wp2_with fail
        refine (ropen_any key NN SS DD hk hnl (by omega) (by omega) _ _ _ sS2 sD2).mono ?_
        rintro e wQ ⟨vb, rfl, hob, hQ⟩
        have aQ : Below w.heap.size w wQ := aP.trans (hQ.mono aP.size)
        have hoaQ := own_below hoa hQ
        have hol : (opened key NN SS DD).2.length ≤ 1000000 := by
          unfold opened
          split
          · simp
          · split
            · simp [enc_length]; omega
            · simp
        clear hQ p0 p1 sS2 sD2 hoa aP
        generalize opened key NN SS DD = OO at *
        go_wp2_with fail
        refine (same_any OO.2 OO.2 hol _ _ _ (Own.sl hoaQ) (Own.sl hob)).mono ?_
        rintro e wR ⟨rfl, hR⟩
        rw [decide_eq_true rfl]
        have aR : Below w.heap.size w wR := aQ.trans (hR.mono aQ.size)
        clear hR hoaQ hob aQ
        go_wp2_with fail
        refine (awake_any _).mono ?_
        rintro e wS ⟨rfl, hS⟩
        have aS : Below w.heap.size w wS := aR.trans (hS.mono aR.size)
        go_wp2_with fail
        go_ret
        exact ⟨rfl, aS⟩
      · by_cases hd0 : 0 < data.length
        · skip
          obtain ⟨gd, capd', ed⟩ := own_lit HOD.out hd0
          simp only [Value.slice.injEq, true_and] at ed
          obtain ⟨rfl, -⟩ := ed
          have hgd := hbdd _ _ _ rfl
          simp only at hgd
          go_wp2_with fail
          refine (low_any which 3 (by decide) (by decide) _).mono ?_
          rintro e wC' ⟨rfl, rfl⟩
          rw [HW.out]
          go_wp2_with fail
          refine (low_any _ data.length hd0 (by omega) _).mono ?_
          rintro e wC' ⟨rfl, rfl⟩
          have hlq := low_lt (wrap64 (bit.tdiv 8)) data.length hd0
          generalize low (wrap64 (bit.tdiv 8)) data.length = q at *
          have cD := own_cell HOD.out rfl q hlq
          have fD := HOD.out.frozenAt q
          have k0 : row? (wC.setCell ⟨gd, q, none⟩ (.int .u8 (n8 (nth data q ^^^ by8) : Nat))) w.heap.size = some (bvs key) := by rw [row?_setCell_ne _ _ _ _ (by simp <;> omega)]; exact HC0.out
          have k1 : row? (wC.setCell ⟨gd, q, none⟩ (.int .u8 (n8 (nth data q ^^^ by8) : Nat))) (w.heap.size + 1) = some (bvs nonce) := by rw [row?_setCell_ne _ _ _ _ (by simp <;> omega)]; exact HC1.out
          have oS := own_same (w' := (wC.setCell ⟨gd, q, none⟩ (.int .u8 (n8 (nth data q ^^^ by8) : Nat)))) HOS.out (by rw [heap_setCell_other _ _ _ _ (by simp <;> omega)])
          have oD := own_stored HOD.out q (nth data q ^^^ by8)
          have aT : Below w.heap.size w (wC.setCell ⟨gd, q, none⟩ (.int .u8 (n8 (nth data q ^^^ by8) : Nat))) := aC.setCell (by simp <;> omega) _
          have hnl : (nonce).length = 12 := by simp [hn]
          have hsl : (S).length = text.length + 16 := by simp [hSl]
          have hdl : (data.set q (nth data q ^^^ by8)).length = data.length := by simp
          have sS : Sl (wC.setCell ⟨gd, q, none⟩ (.int .u8 (n8 (nth data q ^^^ by8) : Nat))) (.slice (some ⟨gs, 0, none⟩) (text.length + 16) caps) (S) := Own.sl (B := _) (e := 5) (by rw [hsl]; exact oS)
          have sD : Sl (wC.setCell ⟨gd, q, none⟩ (.int .u8 (n8 (nth data q ^^^ by8) : Nat))) (.slice (some ⟨gd, 0, none⟩) data.length capd) (data.set q (nth data q ^^^ by8)) := Own.sl (B := _) (e := 5) (by rw [hdl]; exact oD)
          have N1 := Lib.hid k1
          generalize nonce = NN at *
          generalize S = SS at *
          generalize data.set q (nth data q ^^^ by8) = DD at *
          clear oS oD HC0 HC1 HOD HOS
          go_wp2_with fail
          refine (open_any key NN SS DD hk hnl (by omega) (by omega) _ _ _ sS sD).mono ?_
          rintro e wP ⟨va, rfl, hoa, hP⟩
          have zP := hP.size
          have aP : Below w.heap.size w wP := aT.trans (hP.mono aT.size)
          have p0 : row? wP w.heap.size = some (bvs key) := Rg.stable_row hP k0
          have p1 : row? wP (w.heap.size + 1) = some (bvs NN) := Rg.stable_row hP k1
          have sS2 := sS.below hP
          have sD2 := sD.below hP
          clear hP k0 k1 N1 sS sD aT
          go_wp2_with fail
          refine (ropen_any key NN SS DD hk hnl (by omega) (by omega) _ _ _ sS2 sD2).mono ?_
          rintro e wQ ⟨vb, rfl, hob, hQ⟩
          have aQ : Below w.heap.size w wQ := aP.trans (hQ.mono aP.size)
          have hoaQ := own_below hoa hQ
          have hol : (opened key NN SS DD).2.length ≤ 1000000 := by
            unfold opened
            split
            · simp
            · split
              · simp [enc_length]; omega
              · simp
          clear hQ p0 p1 sS2 sD2 hoa aP
          generalize opened key NN SS DD = OO at *
          go_wp2_with fail
          refine (same_any OO.2 OO.2 hol _ _ _ (Own.sl hoaQ) (Own.sl hob)).mono ?_
          rintro e wR ⟨rfl, hR⟩
          rw [decide_eq_true rfl]
          have aR : Below w.heap.size w wR := aQ.trans (hR.mono aQ.size)
          clear hR hoaQ hob aQ
          go_wp2_with fail
          refine (awake_any _).mono ?_
          rintro e wS ⟨rfl, hS⟩
          have aS : Below w.heap.size w wS := aR.trans (hS.mono aR.size)
          go_wp2_with fail
          go_ret
          exact ⟨rfl, aS⟩
        · skip
          have hbk : ∀ k, (Value.slice aod data.length capd).ownBlock = some k → k < wB.heap.size := fun k hk => by
            cases aod with
            | none => cases hk
            | some a => have := (hbdd a _ _ rfl).2; cases hk; exact this
          have hbn : ∀ k, (Value.slice aod data.length capd).ownBlock = some k → wA.heap.size ≤ k := fun k hk => (HOD.out.lt k hk).1
          go_wp2_with fail
          refine (low_any which 3 (by decide) (by decide) _).mono ?_
          rintro e wC' ⟨rfl, rfl⟩
          rw [HW.out]
          go_wp2_with fail
          rw [show (text.length : Int) + 16 = ((text.length + 16 : Nat) : Int) from rfl]
          refine (low_any _ (text.length + 16) (by omega) (by omega) _).mono ?_
          rintro e wC' ⟨rfl, rfl⟩
          have hlq := low_lt (wrap64 (bit.tdiv 8)) (text.length + 16) (by omega)
          generalize low (wrap64 (bit.tdiv 8)) (text.length + 16) = q at *
          have cS := own_cell HOS.out hSl q hlq
          have fS := HOS.out.frozenAt q
          have k0 : row? (wC.setCell ⟨gs, q, none⟩ (.int .u8 (n8 (nth S q ^^^ by8) : Nat))) w.heap.size = some (bvs key) := by rw [row?_setCell_ne _ _ _ _ (by simp <;> omega)]; exact HC0.out
          have k1 : row? (wC.setCell ⟨gs, q, none⟩ (.int .u8 (n8 (nth S q ^^^ by8) : Nat))) (w.heap.size + 1) = some (bvs nonce) := by rw [row?_setCell_ne _ _ _ _ (by simp <;> omega)]; exact HC1.out
          have oS := own_stored HOS.out q (nth S q ^^^ by8)
          have oD := own_grown (w' := (wC.setCell ⟨gs, q, none⟩ (.int .u8 (n8 (nth S q ^^^ by8) : Nat)))) (r := some gs) HOD.out ⟨rfl, rfl, rfl, by simp, fun b _ hne => heap_setCell_other _ _ _ _ (by simp; intro e; exact hne (by rw [e]))⟩ (by intro k hk e; have e' := Option.some.inj e; have := hbk k hk; omega)
          have aT : Below w.heap.size w (wC.setCell ⟨gs, q, none⟩ (.int .u8 (n8 (nth S q ^^^ by8) : Nat))) := aC.setCell (by simp <;> omega) _
          have hnl : (nonce).length = 12 := by simp [hn]
          have hsl : (S.set q (nth S q ^^^ by8)).length = text.length + 16 := by simp [hSl]
          have hdl : (data).length = data.length := by simp
          have sS : Sl (wC.setCell ⟨gs, q, none⟩ (.int .u8 (n8 (nth S q ^^^ by8) : Nat))) (.slice (some ⟨gs, 0, none⟩) (text.length + 16) caps) (S.set q (nth S q ^^^ by8)) := Own.sl (B := _) (e := 5) (by rw [hsl]; exact oS)
          have sD : Sl (wC.setCell ⟨gs, q, none⟩ (.int .u8 (n8 (nth S q ^^^ by8) : Nat))) (.slice (aod) data.length capd) (data) := Own.sl (B := _) (e := 5) (by rw [hdl]; exact oD)
          have N1 := Lib.hid k1
          generalize nonce = NN at *
          generalize S.set q (nth S q ^^^ by8) = SS at *
          generalize data = DD at *
          clear oS oD HC0 HC1 HOD HOS
          go_wp2_with fail
          refine (open_any key NN SS DD hk hnl (by omega) (by omega) _ _ _ sS sD).mono ?_
          rintro e wP ⟨va, rfl, hoa, hP⟩
          have zP := hP.size
          have aP : Below w.heap.size w wP := aT.trans (hP.mono aT.size)
          have p0 : row? wP w.heap.size = some (bvs key) := Rg.stable_row hP k0
          have p1 : row? wP (w.heap.size + 1) = some (bvs NN) := Rg.stable_row hP k1
          have sS2 := sS.below hP
          have sD2 := sD.below hP
          clear hP k0 k1 N1 sS sD aT
          go_wp2_with fail
          refine (ropen_any key NN SS DD hk hnl (by omega) (by omega) _ _ _ sS2 sD2).mono ?_
          rintro e wQ ⟨vb, rfl, hob, hQ⟩
          have aQ : Below w.heap.size w wQ := aP.trans (hQ.mono aP.size)
          have hoaQ := own_below hoa hQ
          have hol : (opened key NN SS DD).2.length ≤ 1000000 := by
            unfold opened
            split
            · simp
            · split
              · simp [enc_length]; omega
              · simp
          clear hQ p0 p1 sS2 sD2 hoa aP
          generalize opened key NN SS DD = OO at *
          go_wp2_with fail
          refine (same_any OO.2 OO.2 hol _ _ _ (Own.sl hoaQ) (Own.sl hob)).mono ?_
          rintro e wR ⟨rfl, hR⟩
          rw [decide_eq_true rfl]
          have aR : Below w.heap.size w wR := aQ.trans (hR.mono aQ.size)
          clear hR hoaQ hob aQ
          go_wp2_with fail
          refine (awake_any _).mono ?_
          rintro e wS ⟨rfl, hS⟩
          have aS : Below w.heap.size w wS := aR.trans (hS.mono aR.size)
          go_wp2_with fail
          go_ret
          exact ⟨rfl, aS⟩
      · skip
        have hbk : ∀ k, (Value.slice aod data.length capd).ownBlock = some k → k < wB.heap.size := fun k hk => by
          cases aod with
          | none => cases hk
          | some a => have := (hbdd a _ _ rfl).2; cases hk; exact this
        have hbn : ∀ k, (Value.slice aod data.length capd).ownBlock = some k → wA.heap.size ≤ k := fun k hk => (HOD.out.lt k hk).1
        go_wp2_with fail
        refine (low_any which 3 (by decide) (by decide) _).mono ?_
        rintro e wC' ⟨rfl, rfl⟩
        rw [HW.out]
        go_wp2_with fail
        rw [show (text.length : Int) + 16 = ((text.length + 16 : Nat) : Int) from rfl]
        refine (low_any _ (text.length + 16) (by omega) (by omega) _).mono ?_
        rintro e wC' ⟨rfl, rfl⟩
        have hlq := low_lt (wrap64 (bit.tdiv 8)) (text.length + 16) (by omega)
        generalize low (wrap64 (bit.tdiv 8)) (text.length + 16) = q at *
        have cS := own_cell HOS.out hSl q hlq
        have fS := HOS.out.frozenAt q
        have k0 : row? (wC.setCell ⟨gs, q, none⟩ (.int .u8 (n8 (nth S q ^^^ by8) : Nat))) w.heap.size = some (bvs key) := by rw [row?_setCell_ne _ _ _ _ (by simp <;> omega)]; exact HC0.out
        have k1 : row? (wC.setCell ⟨gs, q, none⟩ (.int .u8 (n8 (nth S q ^^^ by8) : Nat))) (w.heap.size + 1) = some (bvs nonce) := by rw [row?_setCell_ne _ _ _ _ (by simp <;> omega)]; exact HC1.out
        have oS := own_stored HOS.out q (nth S q ^^^ by8)
        have oD := own_grown (w' := (wC.setCell ⟨gs, q, none⟩ (.int .u8 (n8 (nth S q ^^^ by8) : Nat)))) (r := some gs) HOD.out ⟨rfl, rfl, rfl, by simp, fun b _ hne => heap_setCell_other _ _ _ _ (by simp; intro e; exact hne (by rw [e]))⟩ (by intro k hk e; have e' := Option.some.inj e; have := hbk k hk; omega)
        have aT : Below w.heap.size w (wC.setCell ⟨gs, q, none⟩ (.int .u8 (n8 (nth S q ^^^ by8) : Nat))) := aC.setCell (by simp <;> omega) _
        have hnl : (nonce).length = 12 := by simp [hn]
        have hsl : (S.set q (nth S q ^^^ by8)).length = text.length + 16 := by simp [hSl]
        have hdl : (data).length = data.length := by simp
        have sS : Sl (wC.setCell ⟨gs, q, none⟩ (.int .u8 (n8 (nth S q ^^^ by8) : Nat))) (.slice (some ⟨gs, 0, none⟩) (text.length + 16) caps) (S.set q (nth S q ^^^ by8)) := Own.sl (B := _) (e := 5) (by rw [hsl]; exact oS)
        have sD : Sl (wC.setCell ⟨gs, q, none⟩ (.int .u8 (n8 (nth S q ^^^ by8) : Nat))) (.slice (aod) data.length capd) (data) := Own.sl (B := _) (e := 5) (by rw [hdl]; exact oD)
        have N1 := Lib.hid k1
        generalize nonce = NN at *
        generalize S.set q (nth S q ^^^ by8) = SS at *
        generalize data = DD at *
        clear oS oD HC0 HC1 HOD HOS
        go_wp2_with fail
        refine (open_any key NN SS DD hk hnl (by omega) (by omega) _ _ _ sS sD).mono ?_
        rintro e wP ⟨va, rfl, hoa, hP⟩
        have zP := hP.size
        have aP : Below w.heap.size w wP := aT.trans (hP.mono aT.size)
        have p0 : row? wP w.heap.size = some (bvs key) := Rg.stable_row hP k0
        have p1 : row? wP (w.heap.size + 1) = some (bvs NN) := Rg.stable_row hP k1
        have sS2 := sS.below hP
        have sD2 := sD.below hP
        clear hP k0 k1 N1 sS sD aT
        go_wp2_with fail
        refine (ropen_any key NN SS DD hk hnl (by omega) (by omega) _ _ _ sS2 sD2).mono ?_
        rintro e wQ ⟨vb, rfl, hob, hQ⟩
        have aQ : Below w.heap.size w wQ := aP.trans (hQ.mono aP.size)
        have hoaQ := own_below hoa hQ
        have hol : (opened key NN SS DD).2.length ≤ 1000000 := by
          unfold opened
          split
          · simp
          · split
            · simp [enc_length]; omega
            · simp
        clear hQ p0 p1 sS2 sD2 hoa aP
        generalize opened key NN SS DD = OO at *
        go_wp2_with fail
        refine (same_any OO.2 OO.2 hol _ _ _ (Own.sl hoaQ) (Own.sl hob)).mono ?_
        rintro e wR ⟨rfl, hR⟩
        rw [decide_eq_true rfl]
        have aR : Below w.heap.size w wR := aQ.trans (hR.mono aQ.size)
        clear hR hoaQ hob aQ
        go_wp2_with fail
        refine (awake_any _).mono ?_
        rintro e wS ⟨rfl, hS⟩
        have aS : Below w.heap.size w wS := aR.trans (hS.mono aR.size)
        go_wp2_with fail
        go_ret
        exact ⟨rfl, aS⟩
    · skip
      go_enter Try.func4, Try.ntmps4
      go_wp2_with (go_at_call 9; refine (awake_any _).mono ?_; rintro e w' ⟨rfl, hb⟩)
      go_ret
      exact early _ _ rfl hb
  · skip
    go_enter Try.func4, Try.ntmps4
    go_wp2_with (go_at_call 9; refine (awake_any _).mono ?_; rintro e w' ⟨rfl, hb⟩)
    go_ret
    exact early _ _ rfl hb
namespace gcmTurnedP
theorem own : ownKnob Try.prog.godebug = none := by kernel_rfl
theorem laidOut : laidOutB Try.prog = true := by kernel_rfl
theorem readable : (Try.f4.params.toList.all fun t => Try.prog.readableRec t && decide (t < Try.prog.types.size)) = true := by kernel_rfl
theorem contract (H : Type) (enc : TypeId × Value → H) (W : World) (base : Nat) (args : Array Value) (ds gs : List (DataW H)) (before : List MemPlace)
    (hval : ∀ (j : Nat) t v, Try.f4.params[j]? = some t → args[j]? = some v → Value.okWide Try.prog W .any base t v)
    (hW : DataW.Whole enc Try.prog Try.f4.params.toList Rows.gcmTurnedSpec.vars false W args.toList ds gs before) :
    Calls Try.prog 4 args W fun e W' => ∃ v, e = .returned v ∧ Rows.gcmTurnedSpec.post enc Try.prog Try.f4 false true false false W args v W' := by
  have hW' := hW
  obtain ⟨p, q, hA0, hV, rfl, hfz, hnd⟩ := hW
  have hA : DataW.TrodAll enc Try.prog W 0 (fun _ => true) true Try.f4.params.toList args.toList ds p := hA0
  rw [Try.params4] at hA hval
  obtain ⟨v0, vs0, d0, ds0, p0, q0, hargs, rfl, rfl, h0, r0⟩ := trodAll_cons hA
  obtain ⟨v1, vs1, d1, ds1, p1, q1, rfl, rfl, rfl, h1, r1⟩ := trodAll_cons r0
  obtain ⟨v2, vs2, d2, ds2, p2, q2, rfl, rfl, rfl, h2, r2⟩ := trodAll_cons r1
  obtain ⟨v3, vs3, d3, ds3, p3, q3, rfl, rfl, rfl, h3, r3⟩ := trodAll_cons r2
  obtain ⟨v4, vs4, d4, ds4, p4, q4, rfl, rfl, rfl, h4, r4⟩ := trodAll_cons r3
  obtain ⟨v5, vs5, d5, ds5, p5, q5, rfl, rfl, rfl, h5, r5⟩ := trodAll_cons r4
  obtain ⟨rfl, rfl, rfl⟩ := trodAll_nil r5
  obtain rfl : args = #[v0, v1, v2, v3, v4, v5] := by cases args; simp_all
  obtain ⟨key, h_key, rfl⟩ := Law.open_bytes Try.underlying22 (by kernel_rfl) ⟨List.replicate 16 5, by kernel_rfl, by kernel_rfl⟩ Try.underlying5 (hval 0 22 v0 rfl rfl)
  obtain ⟨nonce, h_nonce, rfl⟩ := Law.open_bytes Try.underlying23 (by kernel_rfl) ⟨List.replicate 12 5, by kernel_rfl, by kernel_rfl⟩ Try.underlying5 (hval 1 23 v1 rfl rfl)
  obtain ⟨text, h_text⟩ := Law.open_slice Try.underlying24 Try.underlying5 (by kernel_rfl) (hval 2 24 v2 rfl rfl) h2
  obtain ⟨data, h_data⟩ := Law.open_slice Try.underlying24 Try.underlying5 (by kernel_rfl) (hval 3 24 v3 rfl rfl) h3
  obtain ⟨which, rfl, _, _⟩ := Law.open_i64 Try.underlying3 (hval 4 3 v4 rfl rfl)
  obtain ⟨bit, rfl, _, _⟩ := Law.open_i64 Try.underlying3 (hval 5 3 v5 rfl rfl)
  refine (turnedLaw_any key nonce text data which bit h_key h_nonce v2 v3 W h_text h_data).mono fun e W' ⟨he, hb⟩ => ?_
  subst he
  exact ⟨_, rfl, Law.post_of_law laidOut readable hW' rfl hb rfl Try.underlying4 rfl rfl rfl⟩
set_option maxRecDepth 100000 in
theorem lifted (os : Os) (started : os.Started) (H : Type) (enc : TypeId × Value → H) :
    ReturnsInHanded {} Try.checked os 4 .any (Rows.gcmTurnedSpec.pre6 enc Try.prog Try.f4 Rows.gcmTurnedRow.domain false) (Rows.gcmTurnedSpec.post enc Try.prog Try.f4 false true false false) := by
  refine returnsInHanded_of_change (C := Try.checked) own started (by kernel_rfl) Try.func4
    (ChangeSpec.witness6 (enc := enc) (C := Try.checked) false ⟨#[], #[.agg #[.int .u8 0, .int .u8 0, .int .u8 0, .int .u8 0, .int .u8 0, .int .u8 0, .int .u8 0, .int .u8 0, .int .u8 0, .int .u8 0, .int .u8 0, .int .u8 0, .int .u8 0, .int .u8 0, .int .u8 0, .int .u8 0], .agg #[.int .u8 0, .int .u8 0, .int .u8 0, .int .u8 0, .int .u8 0, .int .u8 0, .int .u8 0, .int .u8 0, .int .u8 0, .int .u8 0, .int .u8 0, .int .u8 0], .slice none 0 0, .slice none 0 0, .int .i64 0, .int .i64 0], []⟩ 8 (by kernel_rfl) (by kernel_rfl) (by kernel_rfl) (by kernel_rfl)) ?_
  intro W base args ds gs before hval hW _ _
  exact contract H enc W base args ds gs before hval hW
theorem said : Rows.GcmTurnedSaid :=
  OpenClaim.holds_of_wide 4 Try.f4 rfl rfl rfl rfl rfl rfl rfl ⟨rfl, rfl, rfl, rfl, rfl⟩ rfl rfl rfl rfl rfl (by kernel_rfl) Try.func4 (by kernel_rfl)
    (of_decide_eq_true (by kernel_rfl)) (by unfold Func.isWrapper; first | (rw [if_pos (by decide +kernel)]; kernel_rfl) | (rw [if_neg (by decide +kernel)]; exact ⟨rfl, rfl⟩))
    (fun os started H enc _ => lifted os started H enc)
end gcmTurnedP
end Go.Proofs.Ytdfblojnkchpdaa
