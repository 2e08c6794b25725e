/- The walk of mantillaref7's Same: two frames are the same just if all that they have is. -/
import Derived.Test.YtipniobgijdlkaaMgrFrmS1
import Derived.Deep.DeepCutAuto
namespace Go.Proofs.Ytipniobgijdlkaa
open Go.RowKit Go.Rw Frm Hdr
attribute [local go_sem ↓] ldFF stFF alFF ldRg stRg alRg
attribute [local go_sem] rldFF rstFF ralFF rldRg setRow_alloc_at setRow_alloc_past setRow_drew
set_option maxRecDepth 100000 in
set_option maxHeartbeats 4000000 in
theorem rsame_fr (f g : Fr) (hf : f.fits) (hg : g.fits) (v u : Value) (w : World) (hv : Fv w v f) (hu : Fv w u g) :
    Calls Try.prog 22 #[v, u] w fun e w' => e = .returned (.bool (sameB f g)) ∧ Below w.heap.size w w' := by
  have hl := hf.1
  have hl' := hg.1
  obtain ⟨vr, vd, vc, vt, rfl, hr, hd, hc, ht⟩ := hv
  obtain ⟨ur, ud, uc, ut, rfl, gr, gd, gc, gt⟩ := hu
  obtain ⟨ar, er, rfl, -, -, -⟩ := id hr
  obtain ⟨br, xr, rfl, -, -, -⟩ := id gr
  obtain ⟨ad, ed, rfl, -, -, -⟩ := id hd
  obtain ⟨bd, xd, rfl, -, -, -⟩ := id gd
  obtain ⟨ac, ec, rfl, -, -, -⟩ := id hc
  obtain ⟨bc, xc, rfl, -, -, -⟩ := id gc
  obtain ⟨at_, et, rfl, -, -, -⟩ := id ht
  obtain ⟨bt, xt, rfl, -, -, -⟩ := id gt
  obtain ⟨k, n, d, rs, i, o, fin, dat, cid, tok⟩ := f
  obtain ⟨k', n', d', rs', i', o', fin', dat', cid', tok'⟩ := g
  simp only [] at hr hd hc ht gr gd gc gt hl hl' ⊢
  obtain ⟨r, hr0⟩ : ∃ r, sameB ⟨k, n, d, rs, i, o, fin, dat, cid, tok⟩ ⟨k', n', d', rs', i', o', fin', dat', cid', tok'⟩ = r := ⟨_, rfl⟩
  rw [hr0]
  unfold sameB at hr0
  simp only [] at hr0
  have fc := fun (W : World) (b : Nat) (h : row? W b = some (fvA k n d (.slice ar rs.length er) i o fin (.slice ad dat.length ed) (.slice ac cid.length ec) (.slice at_ tok.length et))) => fv_cells h
  have gc' := fun (W : World) (b : Nat) (h : row? W b = some (fvA k' n' d' (.slice br rs'.length xr) i' o' fin' (.slice bd dat'.length xd) (.slice bc cid'.length xc) (.slice bt tok'.length xt))) => fv_cells h
  generalize fvA k n d (.slice ar rs.length er) i o fin (.slice ad dat.length ed) (.slice ac cid.length ec) (.slice at_ tok.length et) = F at *
  generalize fvA k' n' d' (.slice br rs'.length xr) i' o' fin' (.slice bd dat'.length xd) (.slice bc cid'.length xc) (.slice bt tok'.length xt) = G at *
  have r1 : row? ((w.alloc (.cells F 28)).alloc (.cells G 28)) w.heap.size = some F := by rw [row?_alloc_past _ _ _ (by simp)]; exact row?_alloc_at _ _ _ _ rfl
  have r2 : row? ((w.alloc (.cells F 28)).alloc (.cells G 28)) (w.heap.size + 1) = some G := row?_alloc_at _ _ _ _ (by simp)
  obtain ⟨c0, c1, c2, c3, c4, c5, c6, c7, c8, c9⟩ := fc _ _ r1
  obtain ⟨d0, d1, d2, d3, d4, d5, d6, d7, d8, d9⟩ := gc' _ _ r2
  have B0 := Lib.hid (bel2 w (.cells F 28) (.cells G 28))
  have FC := Lib.hid fc
  have GC := Lib.hid gc'
  have R1 := Lib.hid r1
  have R2 := Lib.hid r2
  have HR0 := Lib.hid hr0
  have SR := Lib.hid hr
  have SD := Lib.hid hd
  have SC := Lib.hid hc
  have ST := Lib.hid ht
  have TR := Lib.hid gr
  have TD := Lib.hid gd
  have TC := Lib.hid gc
  have TT := Lib.hid gt
  clear fc gc' r1 r2 hr0 hr hd hc ht gr gd gc gt hf hg
  go_enter Try.func22, Try.ntmps22
  by_cases hln : rs.length = rs'.length
  case neg =>
    have q : ((rs.length : Int) != (rs'.length : Int)) = true := by simp; omega
    go_wp2_with fail
    go_ret
    have hne : decide (rs = rs') = false := decide_eq_false (fun e => hln (by rw [e]))
    exact ⟨congrArg (fun z => Ending.returned (.bool z)) (by rw [← HR0.out, hne]; simp), B0.out⟩
  have q : ((rs.length : Int) != (rs'.length : Int)) = false := by simp; omega
  have HLN := Lib.hid hln
  clear hln
  go_wp2_with fail
  go_loopw [5] (fun v wr => ∃ j : Nat, j ≤ rs.length ∧ v = .int .i64 j ∧ (∀ p, p < j → rlo rs p = rlo rs' p ∧ rhi rs p = rhi rs' p) ∧ Below w.heap.size w wr ∧ row? wr w.heap.size = some F ∧ row? wr (w.heap.size + 1) = some G) (fun v _ => rs.length - (intOf v).toNat)
  case atStart => exact ⟨0, by omega, rfl, fun p hp => absurd hp (by omega), B0.out, R1.out, R2.out⟩
  case round =>
    obtain ⟨j, hj, rfl, hall, hb, hR1, hR2⟩ := hrel
    have HB := Lib.hid hb
    have HA := Lib.hid hall
    have RR1 := Lib.hid hR1
    have RR2 := Lib.hid hR2
    clear c0 c1 c2 c3 c4 c5 c6 c7 c8 c9 d0 d1 d2 d3 d4 d5 d6 d7 d8 d9
    obtain ⟨c0, c1, c2, c3, c4, c5, c6, c7, c8, c9⟩ := FC.out _ _ hR1
    obtain ⟨d0, d1, d2, d3, d4, d5, d6, d7, d8, d9⟩ := GC.out _ _ hR2
    clear hb hall hR1 hR2
    by_cases hlt : j < rs.length
    · have hlt2 : j < rs'.length := by have := HLN.out; omega
      obtain ⟨ao, ee, e0, -, -, hp1⟩ := SR.out
      cases e0
      obtain ⟨b1, o1, rfl, hc1⟩ := hp1 (by omega)
      obtain ⟨ao2, ee2, e02, -, -, hp2⟩ := TR.out
      cases e02
      obtain ⟨b2, o2, rfl, hc2⟩ := hp2 (by omega)
      have e1 := hc1 j hlt
      have e2 := hc2 j hlt2
      have l1 : (loadAgg 58 (.pointer (some ⟨b1, o1 + j * 2, none⟩))).run Try.prog wr.drew = _ := load_two AgRg wr.drew b1 (o1 + j * 2) _ _ (below_cell HB.out e1.1 (cell_lt e1.1)) (below_cell HB.out e1.2 (cell_lt e1.2))
      have l2 : (loadAgg 58 (.pointer (some ⟨b2, o2 + j * 2, none⟩))).run Try.prog wr.drew = _ := load_two AgRg wr.drew b2 (o2 + j * 2) _ _ (below_cell HB.out e2.1 (cell_lt e2.1)) (below_cell HB.out e2.2 (cell_lt e2.2))
      have nq := neqRg (rlo rs j : Nat) (rhi rs j : Nat) (rlo rs' j : Nat) (rhi rs' j : Nat)
      clear hc1 hc2 e1 e2 hp1 hp2
      by_cases he : rlo rs j = rlo rs' j ∧ rhi rs j = rhi rs' j
      · have eb : (!(((rlo rs j : Int) == (rlo rs' j : Nat)) && ((rhi rs j : Int) == (rhi rs' j : Nat)))) = false := by rw [he.1, he.2]; simp
        rw [eb] at nq
        have HE := Lib.hid he
        clear eb he
        go_wp2_with fail
        refine Rg.wp_region_plan (Rg.row [(0, 3), (1, 0), (2, 3), (3, 3), (4, 0), (5, 3), (6, 0), (7, 3), (8, 3), (9, 0), (10, 1)] []) [] (by kernel_rfl) (by kernel_rfl) ?_
        simp only [Rg.row, Rg.PT.map, List.map_nil, List.getD_cons_zero, List.getD_cons_succ]
        go_wp2_with (first
          | ((with_reducible refine Rg.plan_pure ?_ ?_ ?_); kernel_rfl; kernel_rfl; intro _ _)
          | ((with_reducible refine Rg.plan_take ?_ ?_ ?_); kernel_rfl; kernel_rfl; intro _ _)
          | ((with_reducible refine Rg.plan_keep ?_ ?_); kernel_rfl; intro K hK)
          | (refine hK _ _ (Rg.Keep.refl _) ?_; clear hK)
          | (refine hK _ _ (Rg.Keep.of_below (by assumption)) ?_; clear hK)
          | ((with_reducible refine Rg.plan_skip ?_ ?_); kernel_rfl)
          | (with_reducible refine Rg.plan_done ?_)
          | (with_reducible refine Rg.calm_normal ?_))
        refine hK _ _ (Rg.Keep.refl _) ?_
        clear hK
        go_wp2_with (first
          | ((with_reducible refine Rg.plan_pure ?_ ?_ ?_); kernel_rfl; kernel_rfl; intro _ _)
          | ((with_reducible refine Rg.plan_take ?_ ?_ ?_); kernel_rfl; kernel_rfl; intro _ _)
          | ((with_reducible refine Rg.plan_keep ?_ ?_); kernel_rfl; intro K hK)
          | (refine hK _ _ (Rg.Keep.refl _) ?_; clear hK)
          | (refine hK _ _ (Rg.Keep.of_below (by assumption)) ?_; clear hK)
          | ((with_reducible refine Rg.plan_skip ?_ ?_); kernel_rfl)
          | (with_reducible refine Rg.plan_done ?_)
          | (with_reducible refine Rg.calm_normal ?_))
        go_roundw
        case rel =>
          refine ⟨j + 1, by omega, by go_num, fun p hp => ?_, HB.out.drew, (row?_drew _ _).trans RR1.out, (row?_drew _ _).trans RR2.out⟩
          by_cases hjk : p = j
          · subst hjk; exact HE.out
          · exact HA.out p (by omega)
        case measure => simp [intOf]; omega
      · have eb : (!(((rlo rs j : Int) == (rlo rs' j : Nat)) && ((rhi rs j : Int) == (rhi rs' j : Nat)))) = true := by
          rw [Bool.not_eq_true', Bool.and_eq_false_iff, beq_eq_false_iff_ne, beq_eq_false_iff_ne]
          omega
        rw [eb] at nq
        have HE := Lib.hid he
        clear eb he
        go_wp2_with fail
        refine Rg.wp_region_plan (Rg.row [(0, 3), (1, 0), (2, 3), (3, 3), (4, 0), (5, 3), (6, 0), (7, 3), (8, 3), (9, 0), (10, 1)] []) [] (by kernel_rfl) (by kernel_rfl) ?_
        simp only [Rg.row, Rg.PT.map, List.map_nil, List.getD_cons_zero, List.getD_cons_succ]
        go_wp2_with (first
          | ((with_reducible refine Rg.plan_pure ?_ ?_ ?_); kernel_rfl; kernel_rfl; intro _ _)
          | ((with_reducible refine Rg.plan_take ?_ ?_ ?_); kernel_rfl; kernel_rfl; intro _ _)
          | ((with_reducible refine Rg.plan_keep ?_ ?_); kernel_rfl; intro K hK)
          | (refine hK _ _ (Rg.Keep.refl _) ?_; clear hK)
          | (refine hK _ _ (Rg.Keep.of_below (by assumption)) ?_; clear hK)
          | ((with_reducible refine Rg.plan_skip ?_ ?_); kernel_rfl)
          | (with_reducible refine Rg.plan_done ?_)
          | (with_reducible refine Rg.calm_normal ?_))
        refine hK _ _ (Rg.Keep.refl _) ?_
        clear hK
        go_wp2_with (first
          | ((with_reducible refine Rg.plan_pure ?_ ?_ ?_); kernel_rfl; kernel_rfl; intro _ _)
          | ((with_reducible refine Rg.plan_take ?_ ?_ ?_); kernel_rfl; kernel_rfl; intro _ _)
          | ((with_reducible refine Rg.plan_keep ?_ ?_); kernel_rfl; intro K hK)
          | (refine hK _ _ (Rg.Keep.refl _) ?_; clear hK)
          | (refine hK _ _ (Rg.Keep.of_below (by assumption)) ?_; clear hK)
          | ((with_reducible refine Rg.plan_skip ?_ ?_); kernel_rfl)
          | (with_reducible refine Rg.plan_done ?_)
          | (with_reducible refine Rg.calm_normal ?_))
        go_ret
        have hne : decide (rs = rs') = false := decide_eq_false (fun e => HE.out (by rw [e]; exact ⟨rfl, rfl⟩))
        exact ⟨congrArg (fun z => Ending.returned (.bool z)) (by rw [← HR0.out, hne]; simp), HB.out.drew⟩
    · obtain rfl : j = rs.length := by omega
      have Hrs := Lib.hid (ranges_ext HLN.out HA.out)
      have k1 := conv_sl (P := Try.prog) (SD.out.below HB.out) (src := 25) (dst := 9) Try.underlying25 Try.underlying5 Try.underlying9
      have k2 := conv_sl (P := Try.prog) (TD.out.below HB.out) (src := 25) (dst := 9) Try.underlying25 Try.underlying5 Try.underlying9
      have k3 := conv_sl (P := Try.prog) (SC.out.below HB.out) (src := 25) (dst := 9) Try.underlying25 Try.underlying5 Try.underlying9
      have k4 := conv_sl (P := Try.prog) (TC.out.below HB.out) (src := 25) (dst := 9) Try.underlying25 Try.underlying5 Try.underlying9
      have k5 := conv_sl (P := Try.prog) (ST.out.below HB.out) (src := 25) (dst := 9) Try.underlying25 Try.underlying5 Try.underlying9
      have k6 := conv_sl (P := Try.prog) (TT.out.below HB.out) (src := 25) (dst := 9) Try.underlying25 Try.underlying5 Try.underlying9
      clear HLN HA q hj hlt
      go_upto_region 8 with (fail)
      by_cases hk : k = k'
      case neg =>
        have q : (k == k') = false := by simpa using hk
        have Hk := Lib.hid hk
        clear hk
        go_wp2_with fail
        go_ret
        exact ⟨congrArg (fun z => Ending.returned (.bool z)) (by rw [← HR0.out, decide_eq_false Hk.out]; simp), HB.out⟩
      have qk : (k == k') = true := by simpa using hk
      have Hk := Lib.hid hk
      clear hk
      by_cases hn : n = n'
      case neg =>
        have q : (n == n') = false := by simpa using hn
        have q' : ((n : Int) == (n' : Nat)) = false := by rw [beq_eq_false_iff_ne]; omega
        have Hn := Lib.hid hn
        clear hn
        go_wp2_with fail
        go_ret
        exact ⟨congrArg (fun z => Ending.returned (.bool z)) (by rw [← HR0.out, decide_eq_true Hk.out, decide_eq_false Hn.out]; simp), HB.out⟩
      have qn : (n == n') = true := by simpa using hn
      have qn' : ((n : Int) == (n' : Nat)) = true := by rw [beq_iff_eq]; omega
      have Hn := Lib.hid hn
      clear hn
      by_cases hd : d = d'
      case neg =>
        have q : (d == d') = false := by simpa using hd
        have q' : ((d : Int) == (d' : Nat)) = false := by rw [beq_eq_false_iff_ne]; omega
        have Hd := Lib.hid hd
        clear hd
        go_wp2_with fail
        go_ret
        exact ⟨congrArg (fun z => Ending.returned (.bool z)) (by rw [← HR0.out, decide_eq_true Hk.out, decide_eq_true Hn.out, decide_eq_false Hd.out]; simp), HB.out⟩
      have qd : (d == d') = true := by simpa using hd
      have qd' : ((d : Int) == (d' : Nat)) = true := by rw [beq_iff_eq]; omega
      have Hd := Lib.hid hd
      clear hd
      by_cases hi : i = i'
      case neg =>
        have q : (i == i') = false := by simpa using hi
        have q' : ((i : Int) == (i' : Nat)) = false := by rw [beq_eq_false_iff_ne]; omega
        have Hi := Lib.hid hi
        clear hi
        go_wp2_with fail
        go_ret
        exact ⟨congrArg (fun z => Ending.returned (.bool z)) (by rw [← HR0.out, decide_eq_true Hk.out, decide_eq_true Hn.out, decide_eq_true Hd.out, decide_eq_false Hi.out]; simp), HB.out⟩
      have qi : (i == i') = true := by simpa using hi
      have qi' : ((i : Int) == (i' : Nat)) = true := by rw [beq_iff_eq]; omega
      have Hi := Lib.hid hi
      clear hi
      by_cases ho : o = o'
      case neg =>
        have q : (o == o') = false := by simpa using ho
        have q' : ((o : Int) == (o' : Nat)) = false := by rw [beq_eq_false_iff_ne]; omega
        have Ho := Lib.hid ho
        clear ho
        go_wp2_with fail
        go_ret
        exact ⟨congrArg (fun z => Ending.returned (.bool z)) (by rw [← HR0.out, decide_eq_true Hk.out, decide_eq_true Hn.out, decide_eq_true Hd.out, decide_eq_true Hi.out, decide_eq_false Ho.out]; simp), HB.out⟩
      have qo : (o == o') = true := by simpa using ho
      have qo' : ((o : Int) == (o' : Nat)) = true := by rw [beq_iff_eq]; omega
      have Ho := Lib.hid ho
      clear ho
      by_cases hfin : fin = fin'
      case neg =>
        have q : (fin == fin') = false := by simpa using hfin
        have Hfin := Lib.hid hfin
        clear hfin
        go_wp2_with fail
        go_ret
        exact ⟨congrArg (fun z => Ending.returned (.bool z)) (by rw [← HR0.out, decide_eq_true Hk.out, decide_eq_true Hn.out, decide_eq_true Hd.out, decide_eq_true Hi.out, decide_eq_true Ho.out, show (fin == fin') = false from by simpa using Hfin.out]; simp), HB.out⟩
      have qfin : (fin == fin') = true := by simpa using hfin
      have Hfin := Lib.hid hfin
      clear hfin
      by_cases hdat : dat = dat'
      case neg =>
        have q : (dat == dat') = false := by simpa using hdat
        have Hdat := Lib.hid hdat
        clear hdat
        go_wp2_with fail
        go_ret
        exact ⟨congrArg (fun z => Ending.returned (.bool z)) (by rw [← HR0.out, decide_eq_true Hk.out, decide_eq_true Hn.out, decide_eq_true Hd.out, decide_eq_true Hi.out, decide_eq_true Ho.out, show (fin == fin') = true from by simpa using Hfin.out, decide_eq_false Hdat.out]; simp), HB.out⟩
      have qdat : (dat == dat') = true := by simpa using hdat
      have Hdat := Lib.hid hdat
      clear hdat
      by_cases hcid : cid = cid'
      case neg =>
        have q : (cid == cid') = false := by simpa using hcid
        have Hcid := Lib.hid hcid
        clear hcid
        go_wp2_with fail
        go_ret
        exact ⟨congrArg (fun z => Ending.returned (.bool z)) (by rw [← HR0.out, decide_eq_true Hk.out, decide_eq_true Hn.out, decide_eq_true Hd.out, decide_eq_true Hi.out, decide_eq_true Ho.out, show (fin == fin') = true from by simpa using Hfin.out, decide_eq_true Hdat.out, decide_eq_false Hcid.out]; simp), HB.out⟩
      have qcid : (cid == cid') = true := by simpa using hcid
      have Hcid := Lib.hid hcid
      clear hcid
      by_cases htok : tok = tok'
      case neg =>
        have q : (tok == tok') = false := by simpa using htok
        have Htok := Lib.hid htok
        clear htok
        go_wp2_with fail
        go_ret
        exact ⟨congrArg (fun z => Ending.returned (.bool z)) (by rw [← HR0.out, decide_eq_true Hk.out, decide_eq_true Hn.out, decide_eq_true Hd.out, decide_eq_true Hi.out, decide_eq_true Ho.out, show (fin == fin') = true from by simpa using Hfin.out, decide_eq_true Hdat.out, decide_eq_true Hcid.out, decide_eq_false Htok.out]; simp), HB.out⟩
      have qtok : (tok == tok') = true := by simpa using htok
      have Htok := Lib.hid htok
      clear htok
      go_wp2_with fail
      go_ret
      exact ⟨congrArg (fun z => Ending.returned (.bool z)) (by rw [← HR0.out, decide_eq_true Hk.out, decide_eq_true Hn.out, decide_eq_true Hd.out, decide_eq_true Hi.out, decide_eq_true Ho.out, show (fin == fin') = true from by simpa using Hfin.out, decide_eq_true Hrs.out, decide_eq_true Hdat.out, decide_eq_true Hcid.out, decide_eq_true Htok.out]; simp), HB.out⟩
end Go.Proofs.Ytipniobgijdlkaa
