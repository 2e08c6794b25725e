/- FrmS2; FrmRL. -/
import Derived.Test.YtipniobgijdlkaaMgs19
import Derived.Deep.DeepCutAuto
import Derived.Test.YtipniobgijdlkaaMgs23
section
/- The walk of mantillaref7's Same: two frames are the same just if all that they have is. -/
namespace Go.Proofs.Ytipniobgijdlkaa
open Go.RowKit Go.Rw Frm Hdr
attribute [local go_sem ↓] ldFF stFF alFF ldRg stRg alRg
attribute [local go_sem] rldFF rstFF ralFF rldRg setRow_alloc_at setRow_alloc_past setRow_drew
set_option maxRecDepth 100000 in
set_option maxHeartbeats 4000000 in
theorem rsame_fr (f g : Fr) (hf : f.fits) (hg : g.fits) (v u : Value) (w : World) (hv : Fv w v f) (hu : Fv w u g) :
    Calls Try.prog 22 #[v, u] w fun e w' => e = .returned (.bool (sameB f g)) ∧ Below w.heap.size w w' := by
  have hl := hf.1
  have hl' := hg.1
  obtain ⟨vr, vd, vc, vt, rfl, hr, hd, hc, ht⟩ := hv
  obtain ⟨ur, ud, uc, ut, rfl, gr, gd, gc, gt⟩ := hu
  obtain ⟨ar, er, rfl, -, -, -⟩ := id hr
  obtain ⟨br, xr, rfl, -, -, -⟩ := id gr
  obtain ⟨ad, ed, rfl, -, -, -⟩ := id hd
  obtain ⟨bd, xd, rfl, -, -, -⟩ := id gd
  obtain ⟨ac, ec, rfl, -, -, -⟩ := id hc
  obtain ⟨bc, xc, rfl, -, -, -⟩ := id gc
  obtain ⟨at_, et, rfl, -, -, -⟩ := id ht
  obtain ⟨bt, xt, rfl, -, -, -⟩ := id gt
  obtain ⟨k, n, d, rs, i, o, fin, dat, cid, tok⟩ := f
  obtain ⟨k', n', d', rs', i', o', fin', dat', cid', tok'⟩ := g
  simp only [] at hr hd hc ht gr gd gc gt hl hl' ⊢
  obtain ⟨r, hr0⟩ : ∃ r, sameB ⟨k, n, d, rs, i, o, fin, dat, cid, tok⟩ ⟨k', n', d', rs', i', o', fin', dat', cid', tok'⟩ = r := ⟨_, rfl⟩
  rw [hr0]
  unfold sameB at hr0
  simp only [] at hr0
  have fc := fun (W : World) (b : Nat) (h : row? W b = some (fvA k n d (.slice ar rs.length er) i o fin (.slice ad dat.length ed) (.slice ac cid.length ec) (.slice at_ tok.length et))) => fv_cells h
  have gc' := fun (W : World) (b : Nat) (h : row? W b = some (fvA k' n' d' (.slice br rs'.length xr) i' o' fin' (.slice bd dat'.length xd) (.slice bc cid'.length xc) (.slice bt tok'.length xt))) => fv_cells h
  generalize fvA k n d (.slice ar rs.length er) i o fin (.slice ad dat.length ed) (.slice ac cid.length ec) (.slice at_ tok.length et) = F at *
  generalize fvA k' n' d' (.slice br rs'.length xr) i' o' fin' (.slice bd dat'.length xd) (.slice bc cid'.length xc) (.slice bt tok'.length xt) = G at *
  have r1 : row? ((w.alloc (.cells F 28)).alloc (.cells G 28)) w.heap.size = some F := by rw [row?_alloc_past _ _ _ (by simp)]; exact row?_alloc_at _ _ _ _ rfl
  have r2 : row? ((w.alloc (.cells F 28)).alloc (.cells G 28)) (w.heap.size + 1) = some G := row?_alloc_at _ _ _ _ (by simp)
  obtain ⟨c0, c1, c2, c3, c4, c5, c6, c7, c8, c9⟩ := fc _ _ r1
  obtain ⟨d0, d1, d2, d3, d4, d5, d6, d7, d8, d9⟩ := gc' _ _ r2
  have B0 := Lib.hid (bel2 w (.cells F 28) (.cells G 28))
  have FC := Lib.hid fc
  have GC := Lib.hid gc'
  have R1 := Lib.hid r1
  have R2 := Lib.hid r2
  have HR0 := Lib.hid hr0
  have SR := Lib.hid hr
  have SD := Lib.hid hd
  have SC := Lib.hid hc
  have ST := Lib.hid ht
  have TR := Lib.hid gr
  have TD := Lib.hid gd
  have TC := Lib.hid gc
  have TT := Lib.hid gt
  clear fc gc' r1 r2 hr0 hr hd hc ht gr gd gc gt hf hg
  go_enter Try.func22, Try.ntmps22
  by_cases hln : rs.length = rs'.length
  case neg =>
    have q : ((rs.length : Int) != (rs'.length : Int)) = true := by simp; omega
    go_wp2_with fail
    go_ret
    have hne : decide (rs = rs') = false := decide_eq_false (fun e => hln (by rw [e]))
    exact ⟨congrArg (fun z => Ending.returned (.bool z)) (by rw [← HR0.out, hne]; simp), B0.out⟩
  have q : ((rs.length : Int) != (rs'.length : Int)) = false := by simp; omega
  have HLN := Lib.hid hln
  clear hln
  go_wp2_with fail
  go_loopw [5] (fun v wr => ∃ j : Nat, j ≤ rs.length ∧ v = .int .i64 j ∧ (∀ p, p < j → rlo rs p = rlo rs' p ∧ rhi rs p = rhi rs' p) ∧ Below w.heap.size w wr ∧ row? wr w.heap.size = some F ∧ row? wr (w.heap.size + 1) = some G) (fun v _ => rs.length - (intOf v).toNat)
  case atStart => exact ⟨0, by omega, rfl, fun p hp => absurd hp (by omega), B0.out, R1.out, R2.out⟩
  case round =>
    obtain ⟨j, hj, rfl, hall, hb, hR1, hR2⟩ := hrel
    have HB := Lib.hid hb
    have HA := Lib.hid hall
    have RR1 := Lib.hid hR1
    have RR2 := Lib.hid hR2
    clear c0 c1 c2 c3 c4 c5 c6 c7 c8 c9 d0 d1 d2 d3 d4 d5 d6 d7 d8 d9
    obtain ⟨c0, c1, c2, c3, c4, c5, c6, c7, c8, c9⟩ := FC.out _ _ hR1
    obtain ⟨d0, d1, d2, d3, d4, d5, d6, d7, d8, d9⟩ := GC.out _ _ hR2
    clear hb hall hR1 hR2
    by_cases hlt : j < rs.length
    · have hlt2 : j < rs'.length := by have := HLN.out; omega
      obtain ⟨ao, ee, e0, -, -, hp1⟩ := SR.out
      cases e0
      obtain ⟨b1, o1, rfl, hc1⟩ := hp1 (by omega)
      obtain ⟨ao2, ee2, e02, -, -, hp2⟩ := TR.out
      cases e02
      obtain ⟨b2, o2, rfl, hc2⟩ := hp2 (by omega)
      have e1 := hc1 j hlt
      have e2 := hc2 j hlt2
      have l1 : (loadAgg 58 (.pointer (some ⟨b1, o1 + j * 2, none⟩))).run Try.prog wr.drew = _ := load_two AgRg wr.drew b1 (o1 + j * 2) _ _ (below_cell HB.out e1.1 (cell_lt e1.1)) (below_cell HB.out e1.2 (cell_lt e1.2))
      have l2 : (loadAgg 58 (.pointer (some ⟨b2, o2 + j * 2, none⟩))).run Try.prog wr.drew = _ := load_two AgRg wr.drew b2 (o2 + j * 2) _ _ (below_cell HB.out e2.1 (cell_lt e2.1)) (below_cell HB.out e2.2 (cell_lt e2.2))
      have nq := neqRg (rlo rs j : Nat) (rhi rs j : Nat) (rlo rs' j : Nat) (rhi rs' j : Nat)
      clear hc1 hc2 e1 e2 hp1 hp2
      by_cases he : rlo rs j = rlo rs' j ∧ rhi rs j = rhi rs' j
      · have eb : (!(((rlo rs j : Int) == (rlo rs' j : Nat)) && ((rhi rs j : Int) == (rhi rs' j : Nat)))) = false := by rw [he.1, he.2]; simp
        rw [eb] at nq
        have HE := Lib.hid he
        clear eb he
        go_wp2_with fail
        refine Rg.wp_region_plan (Rg.row [(0, 3), (1, 0), (2, 3), (3, 3), (4, 0), (5, 3), (6, 0), (7, 3), (8, 3), (9, 0), (10, 1)] []) [] (by kernel_rfl) (by kernel_rfl) ?_
        simp only [Rg.row, Rg.PT.map, List.map_nil, List.getD_cons_zero, List.getD_cons_succ]
        go_wp2_with (first
          | ((with_reducible refine Rg.plan_pure ?_ ?_ ?_); kernel_rfl; kernel_rfl; intro _ _)
          | ((with_reducible refine Rg.plan_take ?_ ?_ ?_); kernel_rfl; kernel_rfl; intro _ _)
          | ((with_reducible refine Rg.plan_keep ?_ ?_); kernel_rfl; intro K hK)
          | (refine hK _ _ (Rg.Keep.refl _) ?_; clear hK)
          | (refine hK _ _ (Rg.Keep.of_below (by assumption)) ?_; clear hK)
          | ((with_reducible refine Rg.plan_skip ?_ ?_); kernel_rfl)
          | (with_reducible refine Rg.plan_done ?_)
          | (with_reducible refine Rg.calm_normal ?_))
        refine hK _ _ (Rg.Keep.refl _) ?_
        clear hK
        go_wp2_with (first
          | ((with_reducible refine Rg.plan_pure ?_ ?_ ?_); kernel_rfl; kernel_rfl; intro _ _)
          | ((with_reducible refine Rg.plan_take ?_ ?_ ?_); kernel_rfl; kernel_rfl; intro _ _)
          | ((with_reducible refine Rg.plan_keep ?_ ?_); kernel_rfl; intro K hK)
          | (refine hK _ _ (Rg.Keep.refl _) ?_; clear hK)
          | (refine hK _ _ (Rg.Keep.of_below (by assumption)) ?_; clear hK)
          | ((with_reducible refine Rg.plan_skip ?_ ?_); kernel_rfl)
          | (with_reducible refine Rg.plan_done ?_)
          | (with_reducible refine Rg.calm_normal ?_))
        go_roundw
        case rel =>
          refine ⟨j + 1, by omega, by go_num, fun p hp => ?_, HB.out.drew, (row?_drew _ _).trans RR1.out, (row?_drew _ _).trans RR2.out⟩
          by_cases hjk : p = j
          · subst hjk; exact HE.out
          · exact HA.out p (by omega)
        case measure => simp [intOf]; omega
      · have eb : (!(((rlo rs j : Int) == (rlo rs' j : Nat)) && ((rhi rs j : Int) == (rhi rs' j : Nat)))) = true := by
          rw [Bool.not_eq_true', Bool.and_eq_false_iff, beq_eq_false_iff_ne, beq_eq_false_iff_ne]
          omega
        rw [eb] at nq
        have HE := Lib.hid he
        clear eb he
        go_wp2_with fail
        refine Rg.wp_region_plan (Rg.row [(0, 3), (1, 0), (2, 3), (3, 3), (4, 0), (5, 3), (6, 0), (7, 3), (8, 3), (9, 0), (10, 1)] []) [] (by kernel_rfl) (by kernel_rfl) ?_
        simp only [Rg.row, Rg.PT.map, List.map_nil, List.getD_cons_zero, List.getD_cons_succ]
        go_wp2_with (first
          | ((with_reducible refine Rg.plan_pure ?_ ?_ ?_); kernel_rfl; kernel_rfl; intro _ _)
          | ((with_reducible refine Rg.plan_take ?_ ?_ ?_); kernel_rfl; kernel_rfl; intro _ _)
          | ((with_reducible refine Rg.plan_keep ?_ ?_); kernel_rfl; intro K hK)
          | (refine hK _ _ (Rg.Keep.refl _) ?_; clear hK)
          | (refine hK _ _ (Rg.Keep.of_below (by assumption)) ?_; clear hK)
          | ((with_reducible refine Rg.plan_skip ?_ ?_); kernel_rfl)
          | (with_reducible refine Rg.plan_done ?_)
          | (with_reducible refine Rg.calm_normal ?_))
        refine hK _ _ (Rg.Keep.refl _) ?_
        clear hK
        go_wp2_with (first
          | ((with_reducible refine Rg.plan_pure ?_ ?_ ?_); kernel_rfl; kernel_rfl; intro _ _)
          | ((with_reducible refine Rg.plan_take ?_ ?_ ?_); kernel_rfl; kernel_rfl; intro _ _)
          | ((with_reducible refine Rg.plan_keep ?_ ?_); kernel_rfl; intro K hK)
          | (refine hK _ _ (Rg.Keep.refl _) ?_; clear hK)
          | (refine hK _ _ (Rg.Keep.of_below (by assumption)) ?_; clear hK)
          | ((with_reducible refine Rg.plan_skip ?_ ?_); kernel_rfl)
          | (with_reducible refine Rg.plan_done ?_)
          | (with_reducible refine Rg.calm_normal ?_))
        go_ret
        have hne : decide (rs = rs') = false := decide_eq_false (fun e => HE.out (by rw [e]; exact ⟨rfl, rfl⟩))
        exact ⟨congrArg (fun z => Ending.returned (.bool z)) (by rw [← HR0.out, hne]; simp), HB.out.drew⟩
    · obtain rfl : j = rs.length := by omega
      have Hrs := Lib.hid (ranges_ext HLN.out HA.out)
      have k1 := conv_sl (P := Try.prog) (SD.out.below HB.out) (src := 25) (dst := 9) Try.underlying25 Try.underlying5 Try.underlying9
      have k2 := conv_sl (P := Try.prog) (TD.out.below HB.out) (src := 25) (dst := 9) Try.underlying25 Try.underlying5 Try.underlying9
      have k3 := conv_sl (P := Try.prog) (SC.out.below HB.out) (src := 25) (dst := 9) Try.underlying25 Try.underlying5 Try.underlying9
      have k4 := conv_sl (P := Try.prog) (TC.out.below HB.out) (src := 25) (dst := 9) Try.underlying25 Try.underlying5 Try.underlying9
      have k5 := conv_sl (P := Try.prog) (ST.out.below HB.out) (src := 25) (dst := 9) Try.underlying25 Try.underlying5 Try.underlying9
      have k6 := conv_sl (P := Try.prog) (TT.out.below HB.out) (src := 25) (dst := 9) Try.underlying25 Try.underlying5 Try.underlying9
      clear HLN HA q hj hlt
      go_upto_region 8 with (fail)
      by_cases hk : k = k'
      case neg =>
        have q : (k == k') = false := by simpa using hk
        have Hk := Lib.hid hk
        clear hk
        go_wp2_with fail
        go_ret
        exact ⟨congrArg (fun z => Ending.returned (.bool z)) (by rw [← HR0.out, decide_eq_false Hk.out]; simp), HB.out⟩
      have qk : (k == k') = true := by simpa using hk
      have Hk := Lib.hid hk
      clear hk
      by_cases hn : n = n'
      case neg =>
        have q : (n == n') = false := by simpa using hn
        have q' : ((n : Int) == (n' : Nat)) = false := by rw [beq_eq_false_iff_ne]; omega
        have Hn := Lib.hid hn
        clear hn
        go_wp2_with fail
        go_ret
        exact ⟨congrArg (fun z => Ending.returned (.bool z)) (by rw [← HR0.out, decide_eq_true Hk.out, decide_eq_false Hn.out]; simp), HB.out⟩
      have qn : (n == n') = true := by simpa using hn
      have qn' : ((n : Int) == (n' : Nat)) = true := by rw [beq_iff_eq]; omega
      have Hn := Lib.hid hn
      clear hn
      by_cases hd : d = d'
      case neg =>
        have q : (d == d') = false := by simpa using hd
        have q' : ((d : Int) == (d' : Nat)) = false := by rw [beq_eq_false_iff_ne]; omega
        have Hd := Lib.hid hd
        clear hd
        go_wp2_with fail
        go_ret
        exact ⟨congrArg (fun z => Ending.returned (.bool z)) (by rw [← HR0.out, decide_eq_true Hk.out, decide_eq_true Hn.out, decide_eq_false Hd.out]; simp), HB.out⟩
      have qd : (d == d') = true := by simpa using hd
      have qd' : ((d : Int) == (d' : Nat)) = true := by rw [beq_iff_eq]; omega
      have Hd := Lib.hid hd
      clear hd
      by_cases hi : i = i'
      case neg =>
        have q : (i == i') = false := by simpa using hi
        have q' : ((i : Int) == (i' : Nat)) = false := by rw [beq_eq_false_iff_ne]; omega
        have Hi := Lib.hid hi
        clear hi
        go_wp2_with fail
        go_ret
        exact ⟨congrArg (fun z => Ending.returned (.bool z)) (by rw [← HR0.out, decide_eq_true Hk.out, decide_eq_true Hn.out, decide_eq_true Hd.out, decide_eq_false Hi.out]; simp), HB.out⟩
      have qi : (i == i') = true := by simpa using hi
      have qi' : ((i : Int) == (i' : Nat)) = true := by rw [beq_iff_eq]; omega
      have Hi := Lib.hid hi
      clear hi
      by_cases ho : o = o'
      case neg =>
        have q : (o == o') = false := by simpa using ho
        have q' : ((o : Int) == (o' : Nat)) = false := by rw [beq_eq_false_iff_ne]; omega
        have Ho := Lib.hid ho
        clear ho
        go_wp2_with fail
        go_ret
        exact ⟨congrArg (fun z => Ending.returned (.bool z)) (by rw [← HR0.out, decide_eq_true Hk.out, decide_eq_true Hn.out, decide_eq_true Hd.out, decide_eq_true Hi.out, decide_eq_false Ho.out]; simp), HB.out⟩
      have qo : (o == o') = true := by simpa using ho
      have qo' : ((o : Int) == (o' : Nat)) = true := by rw [beq_iff_eq]; omega
      have Ho := Lib.hid ho
      clear ho
      by_cases hfin : fin = fin'
      case neg =>
        have q : (fin == fin') = false := by simpa using hfin
        have Hfin := Lib.hid hfin
        clear hfin
        go_wp2_with fail
        go_ret
        exact ⟨congrArg (fun z => Ending.returned (.bool z)) (by rw [← HR0.out, decide_eq_true Hk.out, decide_eq_true Hn.out, decide_eq_true Hd.out, decide_eq_true Hi.out, decide_eq_true Ho.out, show (fin == fin') = false from by simpa using Hfin.out]; simp), HB.out⟩
      have qfin : (fin == fin') = true := by simpa using hfin
      have Hfin := Lib.hid hfin
      clear hfin
      by_cases hdat : dat = dat'
      case neg =>
        have q : (dat == dat') = false := by simpa using hdat
        have Hdat := Lib.hid hdat
        clear hdat
        go_wp2_with fail
        go_ret
        exact ⟨congrArg (fun z => Ending.returned (.bool z)) (by rw [← HR0.out, decide_eq_true Hk.out, decide_eq_true Hn.out, decide_eq_true Hd.out, decide_eq_true Hi.out, decide_eq_true Ho.out, show (fin == fin') = true from by simpa using Hfin.out, decide_eq_false Hdat.out]; simp), HB.out⟩
      have qdat : (dat == dat') = true := by simpa using hdat
      have Hdat := Lib.hid hdat
      clear hdat
      by_cases hcid : cid = cid'
      case neg =>
        have q : (cid == cid') = false := by simpa using hcid
        have Hcid := Lib.hid hcid
        clear hcid
        go_wp2_with fail
        go_ret
        exact ⟨congrArg (fun z => Ending.returned (.bool z)) (by rw [← HR0.out, decide_eq_true Hk.out, decide_eq_true Hn.out, decide_eq_true Hd.out, decide_eq_true Hi.out, decide_eq_true Ho.out, show (fin == fin') = true from by simpa using Hfin.out, decide_eq_true Hdat.out, decide_eq_false Hcid.out]; simp), HB.out⟩
      have qcid : (cid == cid') = true := by simpa using hcid
      have Hcid := Lib.hid hcid
      clear hcid
      by_cases htok : tok = tok'
      case neg =>
        have q : (tok == tok') = false := by simpa using htok
        have Htok := Lib.hid htok
        clear htok
        go_wp2_with fail
        go_ret
        exact ⟨congrArg (fun z => Ending.returned (.bool z)) (by rw [← HR0.out, decide_eq_true Hk.out, decide_eq_true Hn.out, decide_eq_true Hd.out, decide_eq_true Hi.out, decide_eq_true Ho.out, show (fin == fin') = true from by simpa using Hfin.out, decide_eq_true Hdat.out, decide_eq_true Hcid.out, decide_eq_false Htok.out]; simp), HB.out⟩
      have qtok : (tok == tok') = true := by simpa using htok
      have Htok := Lib.hid htok
      clear htok
      go_wp2_with fail
      go_ret
      exact ⟨congrArg (fun z => Ending.returned (.bool z)) (by rw [← HR0.out, decide_eq_true Hk.out, decide_eq_true Hn.out, decide_eq_true Hd.out, decide_eq_true Hi.out, decide_eq_true Ho.out, show (fin == fin') = true from by simpa using Hfin.out, decide_eq_true Hrs.out, decide_eq_true Hdat.out, decide_eq_true Hcid.out, decide_eq_true Htok.out]; simp), HB.out⟩
end Go.Proofs.Ytipniobgijdlkaa
end
section
/- The law FrameReads, walked. -/
namespace Frm
open Go Go.RowKit Go.Rw Hdr
theorem rtake_len (b : List UInt8) (n : Nat) (s : Nat × Int) : (rtake b n s).2.length ≤ b.length := by
  unfold rtake
  repeat' split
  all_goals simp only [List.length_nil, List.length_take, List.length_drop]
  all_goals omega
theorem rgo_len (b : List UInt8) : ∀ (many hi : Nat) (s : Nat × Int) (acc : List (Nat × Nat)), (rgo b many hi s acc).2.length ≤ acc.length + many + 1 := by
  intro many
  induction many with
  | zero =>
    intro hi s acc
    rw [rgo_eq]
    simp only []
    split
    · simp only []; omega
    · simp
  | succ m ih =>
    intro hi s acc
    rw [rgo_eq]
    simp only []
    split
    · simp only []; omega
    · split
      · simp
      · refine Nat.le_trans (ih _ _ _) ?_
        simp; omega
theorem rgo_bad {b : List UInt8} {many hi : Nat} {s : Nat × Int} {acc : List (Nat × Nat)} (h : s.2 ≠ 0) : (rgo b many hi s acc).2 = acc := by
  rw [rgo_eq]
  simp only []
  rw [rvar_bad h, rfail_bad h, if_pos h]
theorem rack_len (b : List UInt8) (s : Nat × Int) (f : Fr) (hf : f.rs = []) : (rack b s f).2.rs.length ≤ 8 := by
  unfold rack
  simp only []
  rw [hf]
  generalize (rvar b (rvar b (rvar b s).1).1) = m
  by_cases h : (rfail (decide (8 ≤ m.2)) 5 m.1).2 = 0
  · have := (rfail_no (by decide) h).1
    have h8 : ¬ 8 ≤ m.2 := by simpa using this
    refine Nat.le_trans (rgo_len b _ _ _ _) ?_
    simp; omega
  · rw [rgo_bad h]; simp
theorem rbytes_fits {b : List UInt8} (hb : b.length ≤ 1000000) (s : Nat × Int) (f : Fr) (hf : f.fits) : (rbytes b s f).2.fits := by
  unfold rbytes
  exact ⟨hf.1, Nat.le_trans (rtake_len _ _ _) hb, hf.2.2.1, hf.2.2.2⟩
theorem rbody_fits {b : List UInt8} (hb : b.length ≤ 1000000) (s : Nat × Int) (f : Fr) (hf : f.fits) (hr : f.rs = []) : (rbody b s f).2.fits := by
  by_cases h1 : f.k = 1 ∨ f.k = 30
  · rw [rbody_1 b s f h1]; exact hf
  by_cases h2 : f.k = 2
  · rw [rbody_2 b s f h2]
    have := rack_len b s f hr
    refine ⟨by omega, ?_, ?_, ?_⟩
    · exact hf.2.1
    · exact hf.2.2.1
    · exact hf.2.2.2
  by_cases h14 : f.k = 14 ∨ f.k = 15
  · rw [rbody_14 b s f h14]; exact rbytes_fits hb _ _ hf
  by_cases h6 : f.k = 6
  · rw [rbody_6 b s f h6]; exact rbytes_fits hb _ _ hf
  by_cases h16 : f.k = 16 ∨ f.k = 25
  · rw [rbody_16 b s f h16]; exact hf
  by_cases h28 : f.k = 28
  · rw [rbody_28 b s f h28]; exact hf
  by_cases h24 : f.k = 24
  · rw [rbody_24 b s f h24]
    unfold rcid
    exact ⟨hf.1, hf.2.1, Nat.le_trans (rtake_len _ _ _) hb, Nat.le_trans (rtake_len _ _ _) hb⟩
  by_cases h26 : f.k = 26 ∨ f.k = 27
  · rw [rbody_26 b s f h26]; exact ⟨hf.1, Nat.le_trans (rtake_len _ _ _) hb, hf.2.2.1, hf.2.2.2⟩
  rw [rbody_no b s f (by omega)]
  exact hf
theorem fr0_fits (k : Int) (n : Nat) : ({ fr0 with k := k, n := n } : Fr).fits := ⟨by simp [fr0], by simp [fr0], by simp [fr0], by simp [fr0]⟩
theorem fget_fits (b : List UInt8) (hb : b.length ≤ 1000000) : (fget b).1.fits := by
  unfold fget
  split
  · exact fr0_fits 0 0
  split
  · exact fr0_fits 0 0
  split
  · exact fr0_fits 0 _
  simp only []
  split
  · exact fr0_fits 0 0
  · exact rbody_fits hb _ _ (fr0_fits _ 0) rfl
theorem fallGo_fits : ∀ (k : Nat) (b : List UInt8) (out : List Fr), b.length ≤ 1000000 → (∀ f, f ∈ out → f.fits) → ∀ f, f ∈ (fallGo k b out).1 → f.fits := by
  intro k
  induction k with
  | zero => intro b out hb ho f hf; unfold fallGo at hf; split at hf <;> first | (simp at hf; done) | exact ho f hf
  | succ k ih =>
    intro b out hb ho f hf
    unfold fallGo at hf
    by_cases h0 : b.length = 0
    · rw [if_pos h0] at hf
      split at hf <;> first | (simp at hf; done) | exact ho f hf
    rw [if_neg h0] at hf
    by_cases he : (if out.length = 64 then (4 : Int) else (fget b).2.2) ≠ 0
    · rw [if_pos he] at hf
      simp at hf
    · rw [if_neg he] at hf
      refine ih _ _ ?_ (fun g hg => ?_) f hf
      · rw [List.length_drop]; omega
      · rcases List.mem_append.1 hg with h | h
        · exact ho g h
        · rw [List.mem_singleton] at h
          rw [h]
          exact fget_fits b hb
theorem fall_fits (b : List UInt8) (hb : b.length ≤ 1000000) : ∀ f, f ∈ (fall b).1 → f.fits := by
  unfold fall
  exact fallGo_fits _ b [] hb (fun f hf => by simp at hf)
theorem fallGo_len : ∀ (k : Nat) (b : List UInt8) (out : List Fr), out.length ≤ 64 → (fallGo k b out).1.length ≤ 64 := by
  intro k
  induction k with
  | zero => intro b out ho; unfold fallGo; split <;> first | (simp; done) | exact ho
  | succ k ih =>
    intro b out ho
    unfold fallGo
    by_cases h0 : b.length = 0
    · rw [if_pos h0]
      split <;> first | (simp; done) | exact ho
    rw [if_neg h0]
    by_cases he : (if out.length = 64 then (4 : Int) else (fget b).2.2) ≠ 0
    · rw [if_pos he]; simp
    · rw [if_neg he]
      have h64 : out.length ≠ 64 := fun h => he (by rw [if_pos h]; decide)
      exact ih _ _ (by simp; omega)
theorem fall_len (b : List UInt8) : (fall b).1.length ≤ 64 := fallGo_len _ b [] (by simp)
end Frm
namespace Go.Proofs.Ytipniobgijdlkaa
open Go.RowKit Go.Rw Frm Hdr
attribute [local go_sem ↓] ldFF stFF alFF
attribute [local go_sem] rldFF rstFF ralFF setRow_alloc_at setRow_alloc_past setRow_drew
set_option maxRecDepth 100000 in
set_option maxHeartbeats 4000000 in
theorem readsF_any (b : List UInt8) (vb : Value) (w : World) (hs : Sl w vb b) :
    Calls Try.prog 7 #[vb] w fun e w' => e = .returned (.bool true) ∧ Below w.heap.size w w' := by
  obtain ⟨ao, cap, rfl, -, -, -⟩ := id hs
  have HS := Lib.hid hs
  clear hs
  go_enter Try.func7, Try.ntmps7
  by_cases h300 : 300 < b.length
  · have p : decide ((300 : Int) < (b.length : Int)) = true := decide_eq_true (by omega)
    clear h300
    go_wp2_with fail
    refine (fawake_any w).mono ?_
    rintro e wx ⟨rfl, hx⟩
    go_wp2_with fail
    go_ret
    exact ⟨rfl, hx⟩
  have p : decide ((300 : Int) < (b.length : Int)) = false := decide_eq_false (by omega)
  have HB := Lib.hid (show b.length ≤ 300 by omega)
  clear h300
  obtain ⟨⟨f, n, er⟩, hq⟩ : ∃ q, fget b = q := ⟨_, rfl⟩
  have FT := Lib.hid (show f.fits by have := fget_fits b (by have := HB.out; omega); rw [hq] at this; exact this)
  have HQ := Lib.hid hq
  clear hq
  go_wp2_with fail
  have hc := fget_any b (by have := HB.out; omega) _ w HS.out
  rw [HQ.out] at hc
  refine hc.mono ?_
  rintro e w1 ⟨vx, rfl, ox, hb1⟩
  have fx := ox.fv
  obtain ⟨F, rfl, fvF⟩ := ox.fva (g := none) (fun k hk => by cases hk)
  have F1 := fvF.size.1
  have F2 := fvF.size.2
  have B1 := Lib.hid hb1
  have bA := (Below.refl w1.heap.size w1).alloc (Nat.le_refl _) (.cells F 28)
  have B2 := Lib.hid (hb1.alloc hb1.size (.cells F 28))
  have fx2 := Lib.hid (fx.below bA)
  have rF := Lib.hid (row?_alloc_at w1 F 28 w1.heap.size rfl)
  clear hc ox fvF hb1 bA fx
  simp only []
  go_wp2_with fail
  generalize hw2 : w1.alloc (.cells F 28) = w2 at B2 fx2 rF ⊢
  have z2 := Lib.hid (show w2.heap.size = w1.heap.size + 1 by rw [← hw2]; simp)
  clear hw2
  have hc := dgetf_any b (by have := HB.out; omega) _ w2 (HS.out.below B2.out)
  rw [HQ.out] at hc
  refine hc.mono ?_
  rintro e w3 ⟨vx, rfl, ox, hb3⟩
  have fx := ox.fv
  obtain ⟨G, rfl, fvG⟩ := ox.fva (g := none) (fun k hk => by cases hk)
  have G1 := fvG.size.1
  have G2 := fvG.size.2
  have rF3 : row? w3 w1.heap.size = some F := by rw [row?_below hb3 (row?_lt rF.out)]; exact rF.out
  have b3 := B2.out.trans (hb3.mono B2.out.size)
  have hne : w1.heap.size < w3.heap.size := row?_lt rF3
  have bA := (Below.refl w3.heap.size w3).alloc (Nat.le_refl _) (.cells G 28)
  have B4 := Lib.hid (b3.alloc b3.size (.cells G 28))
  have fg4 := Lib.hid (fx.below bA)
  have ff4 := Lib.hid ((fx2.out.below hb3).below bA)
  have rF4 : row? (w3.alloc (.cells G 28)) w1.heap.size = some F := by rw [row?_alloc_past _ _ _ hne]; exact rF3
  have rG4 := row?_alloc_at w3 G 28 w3.heap.size rfl
  have lF := rldFF (w3.alloc (.cells G 28)) w1.heap.size (by rw [rF4, Option.map_some, F1])
  have lG := rldFF (w3.alloc (.cells G 28)) w3.heap.size (by rw [rG4, Option.map_some, G1])
  rw [rF4, Option.getD_some] at lF
  rw [rG4, Option.getD_some] at lG
  have HNE := Lib.hid hne
  clear hc ox fvG hb3 b3 bA fx rF3 rF4 rG4 fx2 rF hne
  simp only []
  go_wp2_with fail
  have hc := rsame_fr f f FT.out FT.out (.agg F) (.agg G) _ ff4.out fg4.out
  rw [sameB_self] at hc
  refine hc.mono ?_
  rintro e w5 ⟨rfl, h5⟩
  have B5 := Lib.hid (B4.out.trans (h5.mono B4.out.size))
  clear hc h5 lF lG B4 fg4 ff4
  obtain ⟨⟨fs, ea⟩, hq⟩ : ∃ q, fall b = q := ⟨_, rfl⟩
  have FS := Lib.hid (show ∀ f, f ∈ fs → f.fits by have := fall_fits b (by have := HB.out; omega); rw [hq] at this; exact this)
  have HLN := Lib.hid (show fs.length ≤ 64 by have := fall_len b; rw [hq] at this; exact this)
  have HQA := Lib.hid hq
  clear hq
  go_wp2_with fail
  have hc := fall_any b (by have := HB.out; omega) _ w5 (HS.out.below B5.out)
  rw [HQA.out] at hc
  refine hc.mono ?_
  rintro e w6 ⟨v6, rfl, o6, h6⟩
  have o6 : OwnFs w6 w5.heap.size 28 v6 fs := o6
  obtain ⟨a6, x6, rfl⟩ := o6.shape
  have B6 := Lib.hid (B5.out.trans (h6.mono B5.out.size))
  have O6 := Lib.hid o6
  clear hc h6 o6 B5
  simp only []
  go_wp2_with fail
  have hc := dall_any b (by have := HB.out; omega) _ w6 (HS.out.below B6.out)
  rw [HQA.out] at hc
  refine hc.mono ?_
  rintro e w7 ⟨v7, rfl, o7, h7⟩
  have o7 : OwnFs w7 w6.heap.size 28 v7 fs := o7
  obtain ⟨a7, x7, rfl⟩ := o7.shape
  have B7 := Lib.hid (B6.out.trans (h7.mono B6.out.size))
  have O6' := Lib.hid (O6.out.below h7)
  have O7 := Lib.hid o7
  clear hc h7 o7 B6 O6
  simp only []
  go_wp2_with fail
  go_loopw [13] (fun v13 wr => ∃ i : Nat, i ≤ fs.length ∧ v13 = .int .i64 (i : Nat) ∧ OwnFs wr w5.heap.size 28 (.slice a6 fs.length x6) fs ∧ OwnFs wr w6.heap.size 28 (.slice a7 fs.length x7) fs ∧ Below w.heap.size w wr) (fun v13 _ => fs.length - (intOf v13).toNat)
  case atStart => exact ⟨0, by omega, rfl, O6'.out, O7.out, B7.out⟩
  case round =>
    obtain ⟨i, hi, rfl, of, og, bw⟩ := hrel
    have OF := Lib.hid of
    have OG := Lib.hid og
    have BW := Lib.hid bw
    by_cases hlt : i < fs.length
    case neg =>
      have p2 : decide (i < fs.length) = false := decide_eq_false hlt
      clear of og bw hi hlt
      go_wp2_with fail
      refine (fawake_any wr).mono ?_
      rintro e wx ⟨rfl, hx⟩
      have BX := Lib.hid (BW.out.trans (hx.mono BW.out.size))
      clear hx
      go_wp2_with fail
      go_ret
      exact ⟨rfl, BX.out⟩
    have p2 : decide (i < fs.length) = true := decide_eq_true hlt
    have HLT := Lib.hid hlt
    obtain ⟨g, cap', A, e', fa, hA, cA⟩ := of.get i hlt
    injection e' with e1 e2 e3
    subst e1 e3
    obtain ⟨g', cap'', A', e', fa', hA', cA'⟩ := og.get i hlt
    injection e' with e1 e2 e3
    subst e1 e3
    obtain ⟨fi, hfi⟩ : ∃ fi, fs.getD i fr0 = fi := ⟨_, rfl⟩
    have hfit : fi.fits := FS.out fi (by rw [← hfi, List.getD_eq_getElem?_getD, List.getElem?_eq_getElem hlt]; exact List.getElem_mem hlt)
    rw [hfi] at fa fa'
    have l1 := load_ten AgFF wr.drew g (i * 10) A hA (fun j hj => cA j hj)
    have l2 := load_ten AgFF wr.drew g' (i * 10) A' hA' (fun j hj => cA' j hj)
    have BD : Below wr.heap.size wr wr.drew := (Below.refl _ _).drew
    have FA := Lib.hid (fa.fv.below BD)
    have FA' := Lib.hid (fa'.fv.below BD)
    have FIT := Lib.hid hfit
    have hi1 : wrap64 ((i : Int) + 1) = (i : Int) + 1 := by have := HLN.out; unfold wrap64; omega
    clear of og bw fa fa' cA cA' hfi hfit BD
    go_wp2_with fail
    refine Rg.wp_region_plan (Rg.row [(0, 3), (1, 3), (2, 3), (3, 0), (4, 3), (5, 3), (6, 3), (7, 0), (8, 1), (9, 3)] []) [] (by kernel_rfl) (by kernel_rfl) ?_
    simp only [Rg.row, Rg.PT.map, List.map_nil, List.getD_cons_zero, List.getD_cons_succ]
    go_wp2_with (first
      | ((with_reducible refine Rg.plan_pure ?_ ?_ ?_); kernel_rfl; kernel_rfl; intro _ _)
      | ((with_reducible refine Rg.plan_take ?_ ?_ ?_); kernel_rfl; kernel_rfl; intro _ _)
      | ((with_reducible refine Rg.plan_keep ?_ ?_); kernel_rfl; intro K hK)
      | (refine hK _ _ (Rg.Keep.refl _) ?_; clear hK)
      | (refine hK _ _ (Rg.Keep.of_below (by assumption)) ?_; clear hK)
      | ((with_reducible refine Rg.plan_skip ?_ ?_); kernel_rfl)
      | (with_reducible refine Rg.plan_done ?_)
      | (with_reducible refine Rg.calm_normal ?_))
    have hs := rsame_fr fi fi FIT.out FIT.out (.agg A) (.agg A') wr.drew FA.out FA'.out
    rw [sameB_self] at hs
    refine hs.mono ?_
    rintro e w8 ⟨rfl, h8⟩
    refine hK _ _ (Rg.Keep.of_below h8) ?_
    have OF8 := Lib.hid ((OF.out.below (Below.refl _ _).drew).below h8)
    have OG8 := Lib.hid ((OG.out.below (Below.refl _ _).drew).below h8)
    have BW8 := Lib.hid (BW.out.drew.trans (h8.mono BW.out.drew.size))
    clear hK hs h8 l1 l2 FA FA' OF OG BW
    go_wp2_with (first
      | ((with_reducible refine Rg.plan_pure ?_ ?_ ?_); kernel_rfl; kernel_rfl; intro _ _)
      | ((with_reducible refine Rg.plan_take ?_ ?_ ?_); kernel_rfl; kernel_rfl; intro _ _)
      | ((with_reducible refine Rg.plan_keep ?_ ?_); kernel_rfl; intro K hK)
      | (refine hK _ _ (Rg.Keep.refl _) ?_; clear hK)
      | (refine hK _ _ (Rg.Keep.of_below (by assumption)) ?_; clear hK)
      | ((with_reducible refine Rg.plan_skip ?_ ?_); kernel_rfl)
      | (with_reducible refine Rg.plan_done ?_)
      | (with_reducible refine Rg.calm_normal ?_))
    go_roundw
    case rel => exact ⟨i + 1, by omega, by go_num, OF8.out, OG8.out, BW8.out⟩
    case measure => rw [hi1]; clear hi1 p p2; have hl2 : i < fs.length := HLT.out; simp [intOf]; omega
end Go.Proofs.Ytipniobgijdlkaa
end
