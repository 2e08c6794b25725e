/- FrmE; FrmS1; FrmN; FrmJ1. -/
import Derived.Test.YtipniobgijdlkaaMgs10
import Derived.Test.YtipniobgijdlkaaMgs12
import Derived.Laws.StructEq
import Derived.Test.YtipniobgijdlkaaMgsFrmAll
import Derived.Test.YtipniobgijdlkaaMgs18
import Derived.Test.YtipniobgijdlkaaMgs15
section
/- The walks of bytes.Equal, of slices.Equal at ranges. -/
namespace Go.Proofs.Ytipniobgijdlkaa
open Go.RowKit Go.Rw Frm Hdr
theorem beq_dec (l m : List UInt8) : (l == m) = decide (l = m) := by rw [Bool.eq_iff_iff]; simp
set_option maxHeartbeats 1000000 in
theorem bytesEq_any (l m : List UInt8) (v u : Value) (w : World) (hv : Sl w v l) (hu : Sl w u m) :
    Calls Try.prog 54 #[v, u] w fun e w' => e = .returned (.bool (decide (l = m))) ∧ w = w' := by
  have k1 := conv_sl (P := Try.prog) hv (src := 25) (dst := 9) Try.underlying25 Try.underlying5 Try.underlying9
  have k2 := conv_sl (P := Try.prog) hu (src := 25) (dst := 9) Try.underlying25 Try.underlying5 Try.underlying9
  clear hv hu
  go_enter Try.func54, Try.ntmps54
  go_wp2_with fail
  go_ret
  exact ⟨congrArg (fun z => Ending.returned (.bool z)) (beq_dec l m), rfl⟩
theorem neqRg (a b c d : Int) (w : World) : (binOp .neq 58 (.agg #[.int .u64 a, .int .u64 b]) (.agg #[.int .u64 c, .int .u64 d])).run Try.prog w = .ok (.bool (!(a == c && b == d))) w := by
  have hS : Try.prog.underlying 58 = some (.struct (Try.prog.fieldsOf 58)) := by kernel_rfl
  have hp : Try.prog.stoodInHeld 58 = false := by kernel_rfl
  have hi := Try.isAgg22
  have hz := Try.sizeOf22
  have hu := Try.underlying22
  rw [run_neq_struct, show (10000 : Nat) = 9999 + 1 from rfl, run_equalIn_agg w 9999 58 _ _ hS hp]
  simp only [Program.fieldsOf, Try.underlying58]
  go_simp
  by_cases h1 : a = c <;> by_cases h2 : b = d <;> simp [h1, h2]
theorem ranges_ext {l m : List (Nat × Nat)} (hl : l.length = m.length) (h : ∀ k, k < l.length → rlo l k = rlo m k ∧ rhi l k = rhi m k) : l = m := by
  apply List.ext_getElem hl
  intro i h1 h2
  have := h i h1
  simp only [rlo, rhi, List.getD, List.getElem?_eq_getElem h1, List.getElem?_eq_getElem h2, Option.getD_some] at this
  exact Prod.ext this.1 this.2
attribute [local go_sem ↓] ldRg stRg alRg
attribute [local go_sem] rldRg rstRg2 ralRg
set_option maxRecDepth 20000 in
set_option maxHeartbeats 1000000 in
theorem rangesEq_any (l m : List (Nat × Nat)) (hlm : l.length ≤ 1000000) (v u : Value) (w : World) (hv : Sr w v l) (hu : Sr w u m) :
    Calls Try.prog 53 #[v, u] w fun e w' => e = .returned (.bool (decide (l = m))) ∧ Below w.heap.size w w' := by
  obtain ⟨a1, e1, rfl, -, -, hp1⟩ := hv
  obtain ⟨a2, e2, rfl, -, -, hp2⟩ := hu
  have H1 := Lib.hid hp1
  have H2 := Lib.hid hp2
  obtain ⟨r, hr⟩ : ∃ r, decide (l = m) = r := ⟨_, rfl⟩
  rw [hr]
  have HR := Lib.hid hr
  clear hp1 hp2 hr
  go_enter Try.func53, Try.ntmps53
  by_cases hl : l.length = m.length
  case neg =>
    have q : ((l.length : Int) != (m.length : Int)) = true := by simp; omega
    go_wp2_with fail
    go_ret
    exact ⟨congrArg (fun z => Ending.returned (.bool z)) (by rw [← HR.out]; symm; rw [decide_eq_false_iff_not]; intro e; exact hl (by rw [e])), Below.refl _ _⟩
  have q : ((l.length : Int) != (m.length : Int)) = false := by simp; omega
  have HL := Lib.hid hl
  clear hl
  go_wp2_with fail
  go_loopw [13] (fun v wr => ∃ k : Nat, k ≤ l.length ∧ v = .int .i64 k ∧ (∀ j, j < k → rlo l j = rlo m j ∧ rhi l j = rhi m j) ∧ Below w.heap.size w wr) (fun v _ => l.length - (intOf v).toNat)
  case atStart => exact ⟨0, by omega, rfl, fun j hj => absurd hj (by omega), Below.refl _ _⟩
  case round =>
    obtain ⟨k, hk, rfl, hall, hb⟩ := hrel
    have HB := Lib.hid hb
    have HA := Lib.hid hall
    clear hb hall
    by_cases hlt : k < l.length
    · obtain ⟨b1, o1, rfl, hc1⟩ := H1.out (by omega)
      obtain ⟨b2, o2, rfl, hc2⟩ := H2.out (by have := HL.out; omega)
      have c1 := hc1 k hlt
      have c2 := hc2 k (by have := HL.out; omega)
      have hlt2 : k < m.length := by have := HL.out; omega
      have l1 : (loadAgg 58 (.pointer (some ⟨b1, o1 + k * 2, none⟩))).run Try.prog wr.drew = _ := load_two AgRg wr.drew b1 (o1 + k * 2) _ _ (below_cell HB.out c1.1 (cell_lt c1.1)) (below_cell HB.out c1.2 (cell_lt c1.2))
      have l2 : (loadAgg 58 (.pointer (some ⟨b2, o2 + k * 2, none⟩))).run Try.prog wr.drew = _ := load_two AgRg wr.drew b2 (o2 + k * 2) _ _ (below_cell HB.out c2.1 (cell_lt c2.1)) (below_cell HB.out c2.2 (cell_lt c2.2))
      have nq := neqRg (rlo l k : Nat) (rhi l k : Nat) (rlo m k : Nat) (rhi m k : Nat)
      clear hc1 hc2 c1 c2
      by_cases he : rlo l k = rlo m k ∧ rhi l k = rhi m k
      · have eb : (!(((rlo l k : Int) == (rlo m k : Nat)) && ((rhi l k : Int) == (rhi m k : Nat)))) = false := by rw [he.1, he.2]; simp
        rw [eb] at nq
        have HE := Lib.hid he
        clear eb he
        go_wp2_with fail
        refine Rg.wp_region_plan (Rg.row [(0, 3), (1, 3), (2, 3), (3, 0), (4, 3), (5, 3), (6, 3), (7, 0), (8, 1)] []) [] (by kernel_rfl) (by kernel_rfl) ?_
        simp only [Rg.row, Rg.PT.map, List.map_nil, List.getD_cons_zero, List.getD_cons_succ]
        go_wp2_with (first
          | ((with_reducible refine Rg.plan_pure ?_ ?_ ?_); kernel_rfl; kernel_rfl; intro _ _)
          | ((with_reducible refine Rg.plan_take ?_ ?_ ?_); kernel_rfl; kernel_rfl; intro _ _)
          | ((with_reducible refine Rg.plan_keep ?_ ?_); kernel_rfl; intro K hK)
          | (refine hK _ _ (Rg.Keep.refl _) ?_; clear hK)
          | (refine hK _ _ (Rg.Keep.of_below (by assumption)) ?_; clear hK)
          | ((with_reducible refine Rg.plan_skip ?_ ?_); kernel_rfl)
          | (with_reducible refine Rg.plan_done ?_)
          | (with_reducible refine Rg.calm_normal ?_))
        refine hK _ _ (Rg.Keep.refl _) ?_
        clear hK
        go_wp2_with (first
          | ((with_reducible refine Rg.plan_pure ?_ ?_ ?_); kernel_rfl; kernel_rfl; intro _ _)
          | ((with_reducible refine Rg.plan_take ?_ ?_ ?_); kernel_rfl; kernel_rfl; intro _ _)
          | ((with_reducible refine Rg.plan_keep ?_ ?_); kernel_rfl; intro K hK)
          | (refine hK _ _ (Rg.Keep.refl _) ?_; clear hK)
          | (refine hK _ _ (Rg.Keep.of_below (by assumption)) ?_; clear hK)
          | ((with_reducible refine Rg.plan_skip ?_ ?_); kernel_rfl)
          | (with_reducible refine Rg.plan_done ?_)
          | (with_reducible refine Rg.calm_normal ?_))
        go_roundw
        case rel =>
          refine ⟨k + 1, by omega, by go_num, fun j hj => ?_, HB.out.drew⟩
          by_cases hjk : j = k
          · subst hjk; exact HE.out
          · exact HA.out j (by omega)
        case measure => simp [intOf]; omega
      · have eb : (!(((rlo l k : Int) == (rlo m k : Nat)) && ((rhi l k : Int) == (rhi m k : Nat)))) = true := by
          rw [Bool.not_eq_true', Bool.and_eq_false_iff, beq_eq_false_iff_ne, beq_eq_false_iff_ne]
          omega
        rw [eb] at nq
        have HE := Lib.hid he
        clear eb he
        go_wp2_with fail
        refine Rg.wp_region_plan (Rg.row [(0, 3), (1, 3), (2, 3), (3, 0), (4, 3), (5, 3), (6, 3), (7, 0), (8, 1)] []) [] (by kernel_rfl) (by kernel_rfl) ?_
        simp only [Rg.row, Rg.PT.map, List.map_nil, List.getD_cons_zero, List.getD_cons_succ]
        go_wp2_with (first
          | ((with_reducible refine Rg.plan_pure ?_ ?_ ?_); kernel_rfl; kernel_rfl; intro _ _)
          | ((with_reducible refine Rg.plan_take ?_ ?_ ?_); kernel_rfl; kernel_rfl; intro _ _)
          | ((with_reducible refine Rg.plan_keep ?_ ?_); kernel_rfl; intro K hK)
          | (refine hK _ _ (Rg.Keep.refl _) ?_; clear hK)
          | (refine hK _ _ (Rg.Keep.of_below (by assumption)) ?_; clear hK)
          | ((with_reducible refine Rg.plan_skip ?_ ?_); kernel_rfl)
          | (with_reducible refine Rg.plan_done ?_)
          | (with_reducible refine Rg.calm_normal ?_))
        refine hK _ _ (Rg.Keep.refl _) ?_
        clear hK
        go_wp2_with (first
          | ((with_reducible refine Rg.plan_pure ?_ ?_ ?_); kernel_rfl; kernel_rfl; intro _ _)
          | ((with_reducible refine Rg.plan_take ?_ ?_ ?_); kernel_rfl; kernel_rfl; intro _ _)
          | ((with_reducible refine Rg.plan_keep ?_ ?_); kernel_rfl; intro K hK)
          | (refine hK _ _ (Rg.Keep.refl _) ?_; clear hK)
          | (refine hK _ _ (Rg.Keep.of_below (by assumption)) ?_; clear hK)
          | ((with_reducible refine Rg.plan_skip ?_ ?_); kernel_rfl)
          | (with_reducible refine Rg.plan_done ?_)
          | (with_reducible refine Rg.calm_normal ?_))
        go_ret
        exact ⟨congrArg (fun z => Ending.returned (.bool z)) (by rw [← HR.out]; symm; rw [decide_eq_false_iff_not]; intro e; subst e; exact HE.out ⟨rfl, rfl⟩), HB.out.drew⟩
    · obtain rfl : k = l.length := by omega
      go_wp2_with fail
      go_ret
      exact ⟨congrArg (fun z => Ending.returned (.bool z)) (by rw [← HR.out]; symm; rw [decide_eq_true_eq]; exact ranges_ext HL.out HA.out), HB.out⟩
end Go.Proofs.Ytipniobgijdlkaa
end
section
/- The walk of package frame's Same: two frames are the same just if all that they have is. -/
namespace Frm
theorem Fr.eq_iff {f g : Fr} : f = g ↔ f.k = g.k ∧ f.n = g.n ∧ f.d = g.d ∧ f.i = g.i ∧ f.o = g.o ∧ f.fin = g.fin ∧ f.rs = g.rs ∧ f.dat = g.dat ∧ f.cid = g.cid ∧ f.tok = g.tok := by
  obtain ⟨a1, a2, a3, a4, a5, a6, a7, a8, a9, a10⟩ := f
  obtain ⟨b1, b2, b3, b4, b5, b6, b7, b8, b9, b10⟩ := g
  simp only [Fr.mk.injEq]
  constructor
  · rintro ⟨h1, h2, h3, h4, h5, h6, h7, h8, h9, h10⟩; exact ⟨h1, h2, h3, h5, h6, h7, h4, h8, h9, h10⟩
  · rintro ⟨h1, h2, h3, h5, h6, h7, h4, h8, h9, h10⟩; exact ⟨h1, h2, h3, h4, h5, h6, h7, h8, h9, h10⟩
def sameB (f g : Fr) : Bool := decide (f.k = g.k) && decide (f.n = g.n) && decide (f.d = g.d) && decide (f.i = g.i) && decide (f.o = g.o) && (f.fin == g.fin) && decide (f.rs = g.rs) && decide (f.dat = g.dat) && decide (f.cid = g.cid) && decide (f.tok = g.tok)
theorem sameB_iff {f g : Fr} : sameB f g = true ↔ f = g := by
  rw [Fr.eq_iff]
  simp only [sameB, Bool.and_eq_true, decide_eq_true_eq, beq_iff_eq, and_assoc]
theorem sameB_self (f : Fr) : sameB f f = true := sameB_iff.2 rfl
end Frm
namespace Go.Proofs.Ytipniobgijdlkaa
open Go.RowKit Go.Rw Frm Hdr
attribute [local go_sem ↓] ldFF stFF alFF ldRg stRg alRg
attribute [local go_sem] rldFF rstFF ralFF rldRg setRow_alloc_at setRow_alloc_past setRow_drew
set_option maxRecDepth 100000 in
set_option maxHeartbeats 4000000 in
theorem fsame_fr (f g : Fr) (hf : f.fits) (v u : Value) (w : World) (hv : Fv w v f) (hu : Fv w u g) :
    Calls Try.prog 32 #[v, u] w fun e w' => e = .returned (.bool (sameB f g)) ∧ Below w.heap.size w w' := by
  have hl := hf.1
  obtain ⟨vr, vd, vc, vt, rfl, hr, hd, hc, ht⟩ := hv
  obtain ⟨ur, ud, uc, ut, rfl, gr, gd, gc, gt⟩ := hu
  obtain ⟨ar, er, rfl, -, -, -⟩ := id hr
  obtain ⟨br, xr, rfl, -, -, -⟩ := id gr
  obtain ⟨ad, ed, rfl, -, -, -⟩ := id hd
  obtain ⟨bd, xd, rfl, -, -, -⟩ := id gd
  obtain ⟨ac, ec, rfl, -, -, -⟩ := id hc
  obtain ⟨bc, xc, rfl, -, -, -⟩ := id gc
  obtain ⟨at_, et, rfl, -, -, -⟩ := id ht
  obtain ⟨bt, xt, rfl, -, -, -⟩ := id gt
  obtain ⟨k, n, d, rs, i, o, fin, dat, cid, tok⟩ := f
  obtain ⟨k', n', d', rs', i', o', fin', dat', cid', tok'⟩ := g
  simp only [] at hr hd hc ht gr gd gc gt hl ⊢
  obtain ⟨r, hr0⟩ : ∃ r, sameB ⟨k, n, d, rs, i, o, fin, dat, cid, tok⟩ ⟨k', n', d', rs', i', o', fin', dat', cid', tok'⟩ = r := ⟨_, rfl⟩
  rw [hr0]
  unfold sameB at hr0
  simp only [] at hr0
  have fc := fun (W : World) (b : Nat) (h : row? W b = some (fvA k n d (.slice ar rs.length er) i o fin (.slice ad dat.length ed) (.slice ac cid.length ec) (.slice at_ tok.length et))) => fv_cells h
  have gc' := fun (W : World) (b : Nat) (h : row? W b = some (fvA k' n' d' (.slice br rs'.length xr) i' o' fin' (.slice bd dat'.length xd) (.slice bc cid'.length xc) (.slice bt tok'.length xt))) => fv_cells h
  generalize fvA k n d (.slice ar rs.length er) i o fin (.slice ad dat.length ed) (.slice ac cid.length ec) (.slice at_ tok.length et) = F at *
  generalize fvA k' n' d' (.slice br rs'.length xr) i' o' fin' (.slice bd dat'.length xd) (.slice bc cid'.length xc) (.slice bt tok'.length xt) = G at *
  have r1 : row? ((w.alloc (.cells F 28)).alloc (.cells G 28)) w.heap.size = some F := by rw [row?_alloc_past _ _ _ (by simp)]; exact row?_alloc_at _ _ _ _ rfl
  have r2 : row? ((w.alloc (.cells F 28)).alloc (.cells G 28)) (w.heap.size + 1) = some G := row?_alloc_at _ _ _ _ (by simp)
  obtain ⟨c0, c1, c2, c3, c4, c5, c6, c7, c8, c9⟩ := fc _ _ r1
  obtain ⟨d0, d1, d2, d3, d4, d5, d6, d7, d8, d9⟩ := gc' _ _ r2
  have B0 := Lib.hid (bel2 w (.cells F 28) (.cells G 28))
  have FC := Lib.hid fc
  have GC := Lib.hid gc'
  have R1 := Lib.hid r1
  have R2 := Lib.hid r2
  have HR0 := Lib.hid hr0
  have SR := Lib.hid hr
  have SD := Lib.hid hd
  have SC := Lib.hid hc
  have ST := Lib.hid ht
  have TR := Lib.hid gr
  have TD := Lib.hid gd
  have TC := Lib.hid gc
  have TT := Lib.hid gt
  clear fc gc' r1 r2 hr0 hr hd hc ht gr gd gc gt hf
  go_enter Try.func32, Try.ntmps32
  by_cases hk : k = k'
  case neg =>
    have q : (k == k') = false := by simpa using hk
    have Hk := Lib.hid hk
    clear hk
    go_wp2_with fail
    go_ret
    exact ⟨congrArg (fun z => Ending.returned (.bool z)) (by rw [← HR0.out, decide_eq_false Hk.out]; simp), B0.out⟩
  have qk : (k == k') = true := by simpa using hk
  have Hk := Lib.hid hk
  clear hk
  by_cases hn : n = n'
  case neg =>
    have q : (n == n') = false := by simpa using hn
    have q' : ((n : Int) == (n' : Nat)) = false := by rw [beq_eq_false_iff_ne]; omega
    have Hn := Lib.hid hn
    clear hn
    go_wp2_with fail
    go_ret
    exact ⟨congrArg (fun z => Ending.returned (.bool z)) (by rw [← HR0.out, decide_eq_true Hk.out, decide_eq_false Hn.out]; simp), B0.out⟩
  have qn : (n == n') = true := by simpa using hn
  have qn' : ((n : Int) == (n' : Nat)) = true := by rw [beq_iff_eq]; omega
  have Hn := Lib.hid hn
  clear hn
  by_cases hd : d = d'
  case neg =>
    have q : (d == d') = false := by simpa using hd
    have q' : ((d : Int) == (d' : Nat)) = false := by rw [beq_eq_false_iff_ne]; omega
    have Hd := Lib.hid hd
    clear hd
    go_wp2_with fail
    go_ret
    exact ⟨congrArg (fun z => Ending.returned (.bool z)) (by rw [← HR0.out, decide_eq_true Hk.out, decide_eq_true Hn.out, decide_eq_false Hd.out]; simp), B0.out⟩
  have qd : (d == d') = true := by simpa using hd
  have qd' : ((d : Int) == (d' : Nat)) = true := by rw [beq_iff_eq]; omega
  have Hd := Lib.hid hd
  clear hd
  by_cases hi : i = i'
  case neg =>
    have q : (i == i') = false := by simpa using hi
    have q' : ((i : Int) == (i' : Nat)) = false := by rw [beq_eq_false_iff_ne]; omega
    have Hi := Lib.hid hi
    clear hi
    go_wp2_with fail
    go_ret
    exact ⟨congrArg (fun z => Ending.returned (.bool z)) (by rw [← HR0.out, decide_eq_true Hk.out, decide_eq_true Hn.out, decide_eq_true Hd.out, decide_eq_false Hi.out]; simp), B0.out⟩
  have qi : (i == i') = true := by simpa using hi
  have qi' : ((i : Int) == (i' : Nat)) = true := by rw [beq_iff_eq]; omega
  have Hi := Lib.hid hi
  clear hi
  by_cases ho : o = o'
  case neg =>
    have q : (o == o') = false := by simpa using ho
    have q' : ((o : Int) == (o' : Nat)) = false := by rw [beq_eq_false_iff_ne]; omega
    have Ho := Lib.hid ho
    clear ho
    go_wp2_with fail
    go_ret
    exact ⟨congrArg (fun z => Ending.returned (.bool z)) (by rw [← HR0.out, decide_eq_true Hk.out, decide_eq_true Hn.out, decide_eq_true Hd.out, decide_eq_true Hi.out, decide_eq_false Ho.out]; simp), B0.out⟩
  have qo : (o == o') = true := by simpa using ho
  have qo' : ((o : Int) == (o' : Nat)) = true := by rw [beq_iff_eq]; omega
  have Ho := Lib.hid ho
  clear ho
  by_cases hfin : fin = fin'
  case neg =>
    have q : (fin == fin') = false := by simpa using hfin
    have Hfin := Lib.hid hfin
    clear hfin
    go_wp2_with fail
    go_ret
    exact ⟨congrArg (fun z => Ending.returned (.bool z)) (by rw [← HR0.out, decide_eq_true Hk.out, decide_eq_true Hn.out, decide_eq_true Hd.out, decide_eq_true Hi.out, decide_eq_true Ho.out, show (fin == fin') = false from by simpa using Hfin.out]; simp), B0.out⟩
  have qfin : (fin == fin') = true := by simpa using hfin
  have Hfin := Lib.hid hfin
  clear hfin
  go_wp2_with fail
  refine (rangesEq_any rs rs' hl _ _ _ (SR.out.below B0.out) (TR.out.below B0.out)).mono ?_
  rintro e w1 ⟨rfl, b1⟩
  have B1 := Lib.hid (B0.out.trans (b1.mono B0.out.size))
  obtain ⟨c0', c1', c2', c3', c4', c5', c6', c7', c8', c9'⟩ := FC.out _ _ (show row? w1 w.heap.size = some F by rw [row?_below b1 (row?_lt R1.out)]; exact R1.out)
  obtain ⟨d0', d1', d2', d3', d4', d5', d6', d7', d8', d9'⟩ := GC.out _ _ (show row? w1 (w.heap.size + 1) = some G by rw [row?_below b1 (row?_lt R2.out)]; exact R2.out)
  clear b1 c0 c1 c2 c3 c4 c5 c6 c7 c8 c9 d0 d1 d2 d3 d4 d5 d6 d7 d8 d9 c0' c1' c2' c3' c4' c5' c6' d0' d1' d2' d3' d4' d5' d6'
  by_cases hrs : rs = rs'
  case neg =>
    rw [decide_eq_false hrs]
    have Hrs := Lib.hid hrs
    clear hrs
    go_wp2_with fail
    go_ret
    exact ⟨congrArg (fun z => Ending.returned (.bool z)) (by rw [← HR0.out, decide_eq_true Hk.out, decide_eq_true Hn.out, decide_eq_true Hd.out, decide_eq_true Hi.out, decide_eq_true Ho.out, show (fin == fin') = true from by simpa using Hfin.out, decide_eq_false Hrs.out]; simp), B1.out⟩
  rw [decide_eq_true hrs]
  have Hrs := Lib.hid hrs
  clear hrs
  go_wp2_with fail
  refine (bytesEq_any dat dat' _ _ _ (SD.out.below B1.out) (TD.out.below B1.out)).mono ?_
  rintro e w2 ⟨rfl, rfl⟩
  by_cases hdat : dat = dat'
  case neg =>
    rw [decide_eq_false hdat]
    have Hdat := Lib.hid hdat
    clear hdat
    go_wp2_with fail
    go_ret
    exact ⟨congrArg (fun z => Ending.returned (.bool z)) (by rw [← HR0.out, decide_eq_true Hk.out, decide_eq_true Hn.out, decide_eq_true Hd.out, decide_eq_true Hi.out, decide_eq_true Ho.out, show (fin == fin') = true from by simpa using Hfin.out, decide_eq_true Hrs.out, decide_eq_false Hdat.out]; simp), B1.out⟩
  rw [decide_eq_true hdat]
  have Hdat := Lib.hid hdat
  clear hdat
  go_wp2_with fail
  refine (bytesEq_any cid cid' _ _ _ (SC.out.below B1.out) (TC.out.below B1.out)).mono ?_
  rintro e w2 ⟨rfl, rfl⟩
  by_cases hcid : cid = cid'
  case neg =>
    rw [decide_eq_false hcid]
    have Hcid := Lib.hid hcid
    clear hcid
    go_wp2_with fail
    go_ret
    exact ⟨congrArg (fun z => Ending.returned (.bool z)) (by rw [← HR0.out, decide_eq_true Hk.out, decide_eq_true Hn.out, decide_eq_true Hd.out, decide_eq_true Hi.out, decide_eq_true Ho.out, show (fin == fin') = true from by simpa using Hfin.out, decide_eq_true Hrs.out, decide_eq_true Hdat.out, decide_eq_false Hcid.out]; simp), B1.out⟩
  rw [decide_eq_true hcid]
  have Hcid := Lib.hid hcid
  clear hcid
  go_wp2_with fail
  refine (bytesEq_any tok tok' _ _ _ (ST.out.below B1.out) (TT.out.below B1.out)).mono ?_
  rintro e w2 ⟨rfl, rfl⟩
  by_cases htok : tok = tok'
  case neg =>
    rw [decide_eq_false htok]
    have Htok := Lib.hid htok
    clear htok
    go_wp2_with fail
    go_ret
    exact ⟨congrArg (fun z => Ending.returned (.bool z)) (by rw [← HR0.out, decide_eq_true Hk.out, decide_eq_true Hn.out, decide_eq_true Hd.out, decide_eq_true Hi.out, decide_eq_true Ho.out, show (fin == fin') = true from by simpa using Hfin.out, decide_eq_true Hrs.out, decide_eq_true Hdat.out, decide_eq_true Hcid.out, decide_eq_false Htok.out]; simp), B1.out⟩
  rw [decide_eq_true htok]
  have Htok := Lib.hid htok
  clear htok
  go_wp2_with fail
  go_ret
  exact ⟨congrArg (fun z => Ending.returned (.bool z)) (by rw [← HR0.out, decide_eq_true Hk.out, decide_eq_true Hn.out, decide_eq_true Hd.out, decide_eq_true Hi.out, decide_eq_true Ho.out, show (fin == fin') = true from by simpa using Hfin.out, decide_eq_true Hrs.out, decide_eq_true Hdat.out, decide_eq_true Hcid.out, decide_eq_true Htok.out]; simp), B1.out⟩
end Go.Proofs.Ytipniobgijdlkaa
end
section
/- An element of a slice of frames that a call made; Eliciting; what every program answers that is one. -/
namespace Frm
open Go Go.RowKit Go.Rw Hdr
theorem flat_get (As : List (Array Value)) : ∀ (k : Nat), k < As.length → (∀ q, q < As.length → (As.getD q #[]).size = 10) → ∀ j, j < 10 → (As.flatMap Array.toList)[k * 10 + j]? = (As.getD k #[])[j]? := by
  induction As with
  | nil => intro k hk; simp at hk
  | cons A As ih =>
    intro k hk hs j hj
    have hA : A.size = 10 := hs 0 (by simp)
    rw [List.flatMap_cons]
    cases k with
    | zero =>
      rw [Nat.zero_mul, Nat.zero_add, List.getElem?_append_left (by rw [Array.length_toList, hA]; exact hj), Array.getElem?_toList]
      rfl
    | succ k =>
      rw [List.getElem?_append_right (by rw [Array.length_toList, hA]; omega), Array.length_toList, hA]
      have := ih k (by simpa using hk) (fun q hq => by have := hs (q + 1) (by simpa using hq); simpa using this) j hj
      rw [show (k + 1) * 10 + j - 10 = k * 10 + j by omega, this]
      simp [List.getD]
/-- An element of a slice of frames that the call made. -/
theorem OwnFs.get {w : World} {N : Nat} {tF : TypeId} {v : Value} {fs : List Fr} (h : OwnFs w N tF v fs) (k : Nat) (hk : k < fs.length) :
    ∃ g cap A, v = .slice (some ⟨g, 0, none⟩) fs.length cap ∧ FvA w v.ownBlock A (fs.getD k fr0) ∧ A.size = 10 ∧ ∀ j, j < 10 → w.cell? ⟨g, k * 10 + j, none⟩ = A[j]? := by
  obtain ⟨As, hl, ho, hf⟩ := h
  have hsz : ∀ q, q < As.length → (As.getD q #[]).size = 10 := fun q hq => (hf q (by omega)).size.1
  rcases ho.2 with ⟨rfl, h0⟩ | ⟨g, cap, cur, rfl, hb, hg, hnc, hcm, hcs, htake⟩
  · omega
  · refine ⟨g, cap, _, rfl, hf k hk, (hf k hk).size.1, fun j hj => ?_⟩
    rw [cell_of_row w g _ cur _ (0, 0) hg, ← flat_get As k (by omega) hsz j hj, ← htake, List.getElem?_take, if_pos (by omega), Array.getElem?_toList]
theorem load_ten {P : Program} {t : Nat} (A0 : Agg P t 10) (w : World) (b o : Nat) (A : Array Value) (hA : A.size = 10) (hc : ∀ j, j < 10 → w.cell? ⟨b, o + j, none⟩ = A[j]?) :
    (loadAgg t (.pointer (some ⟨b, o, none⟩))).run P w = .ok (.agg A) w := by
  obtain ⟨d, hu, hd⟩ := A0.und
  have := run_loadAt_mid (P := P) w b o t A.toList d (fun j v hv => by
    have hj : j < 10 := by have := (List.getElem?_eq_some_iff.1 hv).1; simpa [hA] using this
    rw [hc j hj, ← Array.getElem?_toList]; exact hv) hu hd (by rw [A0.size]; simp [hA])
  rw [Array.toArray_toList] at this
  exact this
/-- The frame that awake lays. -/
def frA : Fr := ⟨8, 0, 0, [], 2, 70, true, [97, 98], [], []⟩
def frZ2 : Fr := ⟨0, 2, 0, [], 0, 0, false, [], [], []⟩
def frP : Fr := ⟨1, 0, 0, [], 0, 0, false, [], [], []⟩
/-- Two frames in rows of the call's own. -/
structure AS (w : World) (b1 : Nat) (F : Array Value) (b2 : Nat) (G : Array Value) (w' : World) : Prop where
  r1 : row? w' b1 = some F
  r2 : row? w' b2 = some G
  f1 : Fv w' (.agg F) frA
  f2 : Fv w' (.agg G) frA
  bel : Below w.heap.size w w'
theorem AS.step {w : World} {b1 b2 : Nat} {F G : Array Value} {w' w'' : World} (h : AS w b1 F b2 G w') (hb : Below w'.heap.size w' w'') : AS w b1 F b2 G w'' :=
  ⟨by rw [row?_below hb (row?_lt h.r1)]; exact h.r1, by rw [row?_below hb (row?_lt h.r2)]; exact h.r2, h.f1.below hb, h.f2.below hb, h.bel.trans (hb.mono h.bel.size)⟩
theorem AS.alloc {w : World} {b1 b2 : Nat} {F G : Array Value} {w' : World} (h : AS w b1 F b2 G w') (A : Array Value) (t : TypeId) : AS w b1 F b2 G (w'.alloc (.cells A t)) :=
  h.step ((Below.refl _ _).alloc (Nat.le_refl _) _)
/-- Two frames in rows of the call's own, and a third in a slice. -/
structure BS (w : World) (b1 : Nat) (F : Array Value) (b2 : Nat) (G : Array Value) (g : Nat) (A : Array Value) (w' : World) : Prop where
  pr : AS w b1 F b2 G w'
  fz : Fv w' (.agg A) frZ2
  hA : A.size = 10
  cz : ∀ j, j < 10 → w'.cell? ⟨g, 0 + j, none⟩ = A[j]?
theorem BS.step {w : World} {b1 b2 g : Nat} {F G A : Array Value} {w' w'' : World} (h : BS w b1 F b2 G g A w') (hb : Below w'.heap.size w' w'') : BS w b1 F b2 G g A w'' :=
  ⟨h.pr.step hb, h.fz.below hb, h.hA, fun j hj => by
    have h0 := h.cz j hj
    obtain ⟨v, hv⟩ : ∃ v, A[j]? = some v := ⟨A[j]'(by rw [h.hA]; exact hj), Array.getElem?_eq_getElem _⟩
    rw [hv] at h0 ⊢
    exact below_cell hb h0 (cell_lt h0)⟩
def elicits (k : Int) : Bool := decide (k ≠ 0) && decide (k ≠ 2) && decide (k ≠ 28)
end Frm
namespace Go.Proofs.Ytipniobgijdlkaa
open Go.RowKit Go.Rw Frm Hdr
attribute [local go_sem ↓] ldFF stFF alFF
attribute [local go_sem] rldFF rstFF ralFF setRow_alloc_at setRow_alloc_past setRow_drew
set_option maxHeartbeats 1000000 in
theorem feli_fr (f : Fr) (v : Value) (w : World) (hv : Fv w v f) :
    Calls Try.prog 31 #[v] w fun e w' => e = .returned (.bool (elicits f.k)) ∧ Below w.heap.size w w' := by
  obtain ⟨vr, vd, vc, vt, rfl, -⟩ := hv
  have B1 := Lib.hid (((Below.refl w.heap.size w).alloc (Nat.le_refl _) (.cells (fvA f.k f.n f.d vr f.i f.o f.fin vd vc vt) 28)))
  have c0 := (fv_cells (row?_alloc_at w (fvA f.k f.n f.d vr f.i f.o f.fin vd vc vt) 28 w.heap.size rfl)).1
  generalize fvA f.k f.n f.d vr f.i f.o f.fin vd vc vt = F at *
  generalize f.k = k at *
  obtain ⟨r, hr⟩ : ∃ r, elicits k = r := ⟨_, rfl⟩
  rw [hr]
  have HR := Lib.hid hr
  clear hr
  go_enter Try.func31, Try.ntmps31
  by_cases h0 : k = 0
  · subst h0
    go_wp2_with fail
    go_ret
    exact ⟨congrArg (fun z => Ending.returned (.bool z)) HR.out, B1.out⟩
  by_cases h2 : k = 2
  · subst h2
    go_wp2_with fail
    go_ret
    exact ⟨congrArg (fun z => Ending.returned (.bool z)) HR.out, B1.out⟩
  by_cases h28 : k = 28
  · subst h28
    go_wp2_with fail
    go_ret
    exact ⟨congrArg (fun z => Ending.returned (.bool z)) HR.out, B1.out⟩
  have q0 : (k != 0) = true := by simpa using h0
  have q2 : (k != 2) = true := by simpa using h2
  have q28 : (k != 28) = true := by simpa using h28
  have hr : elicits k = true := by simp [elicits, h0, h2, h28]
  have HE := Lib.hid (HR.out.symm.trans hr)
  clear hr
  go_wp2_with fail
  go_ret
  exact ⟨congrArg (fun z => Ending.returned (.bool z)) HE.out.symm, B1.out⟩
theorem frA_laid : frA.laid = [15, 2, 64, 70, 2, 97, 98] := by kernel_rfl
theorem frA_may : frA.may = true := by kernel_rfl
theorem frA_get : fget [15, 2, 64, 70, 2, 97, 98] = (frA, 7, 0) := by kernel_rfl
theorem get3 : fget [3] = (fr0, 0, 6) := by kernel_rfl
theorem all001 : fall [0, 0, 1] = ([frZ2, frP], 0) := by kernel_rfl
theorem buildFA (ao : Option Addr) (m cap : Nat) (w : World) : (buildQ 28 #[(0, .int .i64 8), (4, .int .u64 2), (5, .int .u64 70), (6, .bool true), (7, .slice ao m cap)]).run Try.prog w = .ok (.agg (fvA 8 0 0 (.slice none 0 0) 2 70 true (.slice ao m cap) (.slice none 0 0) (.slice none 0 0))) w := Go.run_build w _ _ _ (by kernel_rfl)
attribute [local go_sem ↓] bdFQ

attribute [local go_sem] buildFA
theorem fbs_rules {w : World} {b1 b2 g : Nat} {F G A : Array Value} (hF : F.size = 10) (hG : G.size = 10) (h1 : A[1]? = some (.int .u64 2)) {W : World} (T : BS w b1 F b2 G g A W) :
    (loadAgg 28 (.pointer (some ⟨b1, 0, none⟩))).run Try.prog W = .ok (.agg F) W ∧ (loadAgg 28 (.pointer (some ⟨b2, 0, none⟩))).run Try.prog W = .ok (.agg G) W ∧ (loadAgg 28 (.pointer (some ⟨g, 0, none⟩))).run Try.prog W = .ok (.agg A) W ∧ W.cell? ⟨g, 1, none⟩ = some (.int .u64 2) := by
  have lf := rldFF W b1 (by rw [T.pr.r1, Option.map_some, hF])
  have lg := rldFF W b2 (by rw [T.pr.r2, Option.map_some, hG])
  rw [T.pr.r1, Option.getD_some] at lf
  rw [T.pr.r2, Option.getD_some] at lg
  exact ⟨lf, lg, load_ten AgFF W g 0 A T.hA T.cz, by have := T.cz 1 (by decide); rw [h1] at this; exact this⟩
set_option maxRecDepth 100000 in
set_option maxHeartbeats 4000000 in
theorem fawake_any (w : World) :
    Calls Try.prog 26 #[] w fun e w' => e = .returned (.bool true) ∧ Below w.heap.size w w' := by
  have hcv := fun (w : World) (C : Array Value) (n c : Nat) => Lib.run_convert_bytes_const (P := Try.prog) w 25 5 C n c Try.underlying25 Try.underlying5
  go_enter Try.func26, Try.ntmps26
  go_wp2_with fail
  have fits : frA.fits := by unfold Fr.fits frA; decide
  have hsl : Sl (w.alloc (.cells #[.int .u8 97, .int .u8 98] 5 (2, 3))) (.slice (some ⟨w.heap.size, 0, none⟩) 2 2) [97, 98] := by
    refine ⟨_, 2, rfl, by decide, fun h => (by cases h), fun _ => ⟨w.heap.size, 0, rfl, fun k hk => ?_⟩⟩
    rw [cell_of_row _ _ _ _ _ _ (heap_alloc_new w _)]
    match k, hk with
    | 0, _ => rfl
    | 1, _ => rfl
  have hz1 : (w.alloc (.cells #[.int .u8 97, .int .u8 98] 5 (2, 3))).heap.size = w.heap.size + 1 := by simp
  have hb0 : Below w.heap.size w (w.alloc (.cells #[.int .u8 97, .int .u8 98] 5 (2, 3))) := (Below.refl _ _).alloc (Nat.le_refl _) _
  generalize w.alloc (.cells #[.int .u8 97, .int .u8 98] 5 (2, 3)) = w1 at *
  have hfv : Fv w1 (.agg (fvA 8 0 0 (.slice none 0 0) 2 70 true (.slice (some ⟨w.heap.size, 0, none⟩) 2 2) (.slice none 0 0) (.slice none 0 0))) frA :=
    ⟨_, _, _, _, rfl, Sr.nil _, hsl, Sl.nil _, Sl.nil _⟩
  have hz : (fvA 8 0 0 (.slice none 0 0) 2 70 true (.slice (some ⟨w.heap.size, 0, none⟩) 2 2) (.slice none 0 0) (.slice none 0 0)).size = 10 := rfl
  generalize fvA 8 0 0 (.slice none 0 0) 2 70 true (.slice (some ⟨w.heap.size, 0, none⟩) 2 2) (.slice none 0 0) (.slice none 0 0) = F at *
  rw [← hz1]
  have hrow := row?_alloc_at w1 F 28 w1.heap.size rfl
  have hb2 : Below w.heap.size w (w1.alloc (.cells F 28)) := hb0.alloc hb0.size _
  have hfv2 : Fv (w1.alloc (.cells F 28)) (.agg F) frA := hfv.below ((Below.refl _ _).alloc (Nat.le_refl _) _)
  clear hcv hsl
  generalize w1.alloc (.cells F 28) = w2 at *
  have hlt := row?_lt hrow
  refine (fput_fr frA fits (.agg F) w2 hfv2).mono ?_
  rintro e w3 ⟨v3, rfl, ho3, h3⟩
  rw [frA_laid] at ho3
  have row3 : row? w3 w1.heap.size = some F := by rw [row?_below h3 hlt]; exact hrow
  have fv3 := hfv2.below h3
  have b3 : Below w.heap.size w w3 := hb2.trans (h3.mono hb2.size)
  have s3 : Sl w3 v3 [15, 2, 64, 70, 2, 97, 98] := Own.sl ho3
  have l3 : w1.heap.size < w3.heap.size := row?_lt row3
  clear ho3 h3 hfv2 hfv hrow hlt hb2
  go_wp2_with fail
  refine (fget_any _ (by decide) v3 w3 s3).mono ?_
  rintro e w4 ⟨v4, rfl, ho4, h4⟩
  rw [frA_get] at ho4 ⊢
  have row4 : row? w4 w1.heap.size = some F := by rw [row?_below h4 l3]; exact row3
  have fv4 := fv3.below h4
  have g4 : Fv w4 v4 frA := FO.fv ho4
  have b4 : Below w.heap.size w w4 := b3.trans (h4.mono b3.size)
  have l4 : w1.heap.size < w4.heap.size := row?_lt row4
  obtain ⟨G, rfl, fva⟩ := ho4.fva (g := none) (fun k hk => by cases hk)
  have hG := fva.size.1
  have hG1 := fva.size.2
  clear ho4 h4 fv3 row3 s3 b3 l3 fva
  go_wp2_with fail
  rw [← hz1]
  have S5 : AS w w1.heap.size F w4.heap.size G (w4.alloc (.cells G 28)) :=
    ⟨by rw [row?_alloc_past _ _ _ l4]; exact row4, row?_alloc_at _ _ _ _ rfl, fv4.below ((Below.refl _ _).alloc (Nat.le_refl _) _), g4.below ((Below.refl _ _).alloc (Nat.le_refl _) _), b4.alloc b4.size _⟩
  have z5 : (w4.alloc (.cells G 28)).heap.size = w4.heap.size + 1 := by simp
  clear row4 fv4 g4 b4 l4
  rw [← z5]
  generalize w4.alloc (.cells G 28) = w5 at *
  have s6 : Sl (w5.alloc (.cells #[.int .u8 3] 5)) (.slice (some ⟨w5.heap.size, 0, none⟩) 1 1) [3] := Sl.row (l := ([3] : List UInt8)) (row?_alloc_at w5 #[.int .u8 3] 5 _ rfl)
  have S6 := S5.alloc #[.int .u8 3] 5
  clear S5
  generalize w5.alloc (.cells #[.int .u8 3] 5) = w6 at *
  refine (fget_any _ (by decide) _ w6 s6).mono ?_
  rintro e w7 ⟨v7, rfl, ho7, h7⟩
  rw [get3] at ho7 ⊢
  have S7 := S6.step h7
  obtain ⟨H, rfl, fva⟩ := ho7.fva (g := none) (fun k hk => by cases hk)
  have hH := fva.size.1
  have hH1 := fva.size.2
  clear S6 ho7 h7 s6 fva z5
  go_wp2_with fail
  have S7' := S7.alloc H 28
  clear S7
  have z7 : (w7.alloc (.cells H 28)).heap.size = w7.heap.size + 1 := by simp
  rw [← z7]
  generalize w7.alloc (.cells H 28) = w7' at *
  have s8 : Sl (w7'.alloc (.cells #[.int .u8 0, .int .u8 0, .int .u8 1] 5)) (.slice (some ⟨w7'.heap.size, 0, none⟩) 3 3) [0, 0, 1] := Sl.row (l := ([0, 0, 1] : List UInt8)) (row?_alloc_at w7' #[.int .u8 0, .int .u8 0, .int .u8 1] 5 _ rfl)
  have S8 := S7'.alloc #[.int .u8 0, .int .u8 0, .int .u8 1] 5
  clear S7'
  generalize w7'.alloc (.cells #[.int .u8 0, .int .u8 0, .int .u8 1] 5) = w8 at *
  refine (fall_any _ (by decide) _ w8 s8).mono ?_
  rintro e w9 ⟨v9, rfl, ho9, h9⟩
  rw [all001] at ho9 ⊢
  have S9 := S8.step h9
  clear S8 h9 s8
  have ho10 : OwnFs w9 w8.heap.size 28 v9 [frZ2, frP] := ho9
  obtain ⟨g, cap, A, e9, fva, hA, cA⟩ := ho10.get 0 (by decide)
  have e9' : v9 = .slice (some ⟨g, 0, none⟩) 2 cap := e9
  subst e9'
  have fz : Fv w9 (.agg A) frZ2 := fva.fv
  have cz : ∀ j, j < 10 → w9.cell? ⟨g, 0 + j, none⟩ = A[j]? := fun j hj => by have := cA j hj; rw [Nat.zero_mul] at this; exact this
  have a1 : A[1]? = some (.int .u64 2) := by obtain ⟨_, _, _, _, rfl, _⟩ := fva; rfl
  have T9 : BS w w1.heap.size F w4.heap.size G g A w9 := ⟨S9, fz, hA, cz⟩
  clear ho9 ho10 cA fva e9 fz cz S9 z7
  simp only []
  have RUL := fun (W : World) (T : BS w w1.heap.size F w4.heap.size G g A W) => fbs_rules hz hG a1 T
  have HF := Lib.hid fits
  rw [hz1] at RUL T9
  clear fits hz hG a1 hA hz1
  have T9 := Lib.hid T9
  obtain ⟨lf, lg, l10, c1⟩ := RUL _ T9.out
  have RUL' := Lib.hid RUL
  clear RUL
  go_wp2_with fail
  have RUL := RUL'.out
  clear RUL' lf lg l10 c1
  have hq := sameB_self frA
  have hcall := fsame_fr frA frA HF.out (.agg F) (.agg G) w9 T9.out.pr.f1 T9.out.pr.f2
  rw [hq] at hcall
  refine hcall.mono ?_
  rintro e w10 ⟨rfl, h⟩
  have T10 := T9.out.step h
  clear T9 hcall hq h
  have T10 := Lib.hid T10
  obtain ⟨lf, lg, l10, c1⟩ := RUL _ T10.out
  have RUL' := Lib.hid RUL
  clear RUL
  go_wp2_with fail
  have RUL := RUL'.out
  clear RUL' lf lg l10 c1
  have hq : elicits frA.k = true := rfl
  have hcall := feli_fr frA (.agg F) w10 T10.out.pr.f1
  rw [hq] at hcall
  refine hcall.mono ?_
  rintro e w11 ⟨rfl, h⟩
  have T11 := T10.out.step h
  clear T10 hcall hq h
  have T11 := Lib.hid T11
  obtain ⟨lf, lg, l10, c1⟩ := RUL _ T11.out
  have RUL' := Lib.hid RUL
  clear RUL
  go_wp2_with fail
  have RUL := RUL'.out
  clear RUL' lf lg l10 c1
  have hq : elicits frZ2.k = false := rfl
  have hcall := feli_fr frZ2 (.agg A) w11 T11.out.fz
  rw [hq] at hcall
  refine hcall.mono ?_
  rintro e w12 ⟨rfl, h⟩
  have T12 := T11.out.step h
  clear T11 hcall hq h
  have T12 := Lib.hid T12
  obtain ⟨lf, lg, l10, c1⟩ := RUL _ T12.out
  have RUL' := Lib.hid RUL
  clear RUL
  go_wp2_with fail
  have RUL := RUL'.out
  clear RUL' lf lg l10 c1
  have hq : frA.laid.length = 7 := by rw [frA_laid]; rfl
  have hcall := flen_fr frA HF.out (.agg F) w12 T12.out.pr.f1
  rw [hq] at hcall
  refine hcall.mono ?_
  rintro e w13 ⟨rfl, h⟩
  have T13 := T12.out.step h
  clear T12 hcall hq h
  have T13 := Lib.hid T13
  obtain ⟨lf, lg, l10, c1⟩ := RUL _ T13.out
  have RUL' := Lib.hid RUL
  clear RUL
  go_wp2_with fail
  have RUL := RUL'.out
  clear RUL' lf lg l10 c1
  have hq := frA_may
  have hcall := fmay_fr frA HF.out (.agg F) w13 T13.out.pr.f1
  rw [hq] at hcall
  refine hcall.mono ?_
  rintro e w14 ⟨rfl, h⟩
  have T14 := T13.out.step h
  clear T13 hcall hq h
  have B := T14.pr.bel
  go_wp2_with fail
  go_ret
  exact ⟨rfl, B⟩
end Go.Proofs.Ytipniobgijdlkaa
end
section
/- Frames one behind the other, and one cut at its end: in plain words. -/
namespace Frm
open Go Go.RowKit Go.Rw Hdr
theorem vget_ex (l y : List UInt8) : (vget l).2.2 = 3 ∨ vget l = vget (l ++ y) := by
  by_cases h : l.length = 0 ∨ l.length < vmany (nth l 0)
  · left; unfold vget; rw [if_pos h]
  · right
    have h0 : nth (l ++ y) 0 = nth l 0 := by
      unfold nth
      rw [List.getElem?_append_left (by omega)]
    have hm : vmany (nth l 0) ≤ l.length := by omega
    unfold vget
    rw [if_neg h, h0, if_neg (by rw [List.length_append]; omega)]
    unfold vnum
    rw [h0, List.take_append_of_le_length hm]
theorem drop_ap (b y : List UInt8) (n : Nat) (h : n ≤ b.length) : (b ++ y).drop n = b.drop n ++ y := List.drop_append_of_le_length h
theorem rvar_ex {b y : List UInt8} {s : Nat × Int} : (rvar b s).1.2 = 3 ∨ rvar b s = rvar (b ++ y) s := by
  by_cases h : s.2 = 0
  · by_cases hl : s.1 ≤ b.length
    · unfold rvar
      rw [if_neg (by simpa using h), if_neg (by simpa using h), drop_ap b y s.1 hl]
      rcases vget_ex (b.drop s.1) y with e | e
      · exact .inl e
      · right; rw [← e]
    · left
      unfold rvar
      rw [if_neg (by simpa using h), List.drop_eq_nil_of_le (by omega)]
      rfl
  · right; rw [rvar_bad h, rvar_bad h]
theorem rtake_ex {b y : List UInt8} {n : Nat} {s : Nat × Int} (hl : s.1 ≤ b.length) : (rtake b n s).1.2 = 3 ∨ rtake b n s = rtake (b ++ y) n s := by
  by_cases h : s.2 = 0
  · unfold rtake
    rw [if_neg (show ¬ s.2 ≠ 0 by simpa using h), if_neg (show ¬ s.2 ≠ 0 by simpa using h)]
    by_cases hs : b.length - s.1 < n
    · left; rw [if_pos hs]
    · right
      rw [if_neg hs, if_neg (by rw [List.length_append]; omega), drop_ap b y s.1 hl, List.take_append_of_le_length (by rw [List.length_drop]; omega)]
  · right; rw [rtake_bad h, rtake_bad h]
theorem bad3 {s : Nat × Int} (h : s.2 = 3) : s.2 ≠ 0 := by rw [h]; decide
theorem rbytes_bad3 {b : List UInt8} {s : Nat × Int} {f : Fr} (h : s.2 = 3) : (rbytes b s f).1.2 = 3 := by
  unfold rbytes
  simp only []
  rw [rvar_bad (bad3 h), rvar_bad (bad3 h), rfail_bad (bad3 h), rtake_bad (bad3 h)]
  exact h
theorem rbytes_ex {b y : List UInt8} {s : Nat × Int} {f : Fr} (hl : s.1 ≤ b.length) : (rbytes b s f).1.2 = 3 ∨ rbytes b s f = rbytes (b ++ y) s f := by
  unfold rbytes
  simp only []
  have l1 := rvar_le b s hl
  rcases rvar_ex (b := b) (y := y) (s := s) with e | e
  · left; rw [rvar_bad (bad3 e), rfail_bad (bad3 e), rtake_bad (bad3 e)]; exact e
  rw [← e]
  have l2 := rvar_le b (rvar b s).1 l1
  rcases rvar_ex (b := b) (y := y) (s := (rvar b s).1) with e | e
  · left; rw [rfail_bad (bad3 e), rtake_bad (bad3 e)]; exact e
  rw [← e]
  rcases rtake_ex (b := b) (y := y) (n := (rvar b (rvar b s).1).2) (s := rfail (decide (16383 < (rvar b (rvar b s).1).2) || decide (4611686018427387903 - (rvar b (rvar b s).1).2 < (rvar b s).2)) 5 (rvar b (rvar b s).1).1) (by rw [rfail_at]; exact l2) with e | e
  · exact .inl e
  · right; rw [← e]
theorem rgo_bad3 {b : List UInt8} {many hi : Nat} {s : Nat × Int} {acc : List (Nat × Nat)} (h : s.2 = 3) : (rgo b many hi s acc).1.2 = 3 := by
  rw [rgo_eq]
  simp only []
  rw [rvar_bad (bad3 h), rfail_bad (bad3 h), if_pos (bad3 h)]
  exact h
theorem rgo_ex {b y : List UInt8} : ∀ (many hi : Nat) (s : Nat × Int) (acc : List (Nat × Nat)), (rgo b many hi s acc).1.2 = 3 ∨ rgo b many hi s acc = rgo (b ++ y) many hi s acc := by
  intro many
  induction many with
  | zero =>
    intro hi s acc
    rw [rgo_eq, rgo_eq (b ++ y)]
    simp only []
    rcases rvar_ex (b := b) (y := y) (s := s) with e | e
    · left; rw [rfail_bad (bad3 e), if_pos (bad3 e)]; exact e
    · right; rw [← e]
  | succ m ih =>
    intro hi s acc
    rw [rgo_eq, rgo_eq (b ++ y)]
    simp only []
    rcases rvar_ex (b := b) (y := y) (s := s) with e | e
    · left; rw [rfail_bad (bad3 e), if_pos (bad3 e)]; exact e
    rw [← e]
    generalize rvar b s = r
    generalize rfail (decide (hi < r.2)) 5 r.1 = s2
    by_cases h2 : s2.2 = 0
    · rw [if_neg (show ¬ s2.2 ≠ 0 by simpa using h2), if_neg (show ¬ s2.2 ≠ 0 by simpa using h2)]
      rcases rvar_ex (b := b) (y := y) (s := s2) with e | e
      · left; rw [rfail_bad (bad3 e), if_pos (bad3 e)]; exact e
      rw [← e]
      generalize rvar b s2 = q
      generalize rfail (decide (q.1.2 = 0) && (decide (hi - r.2 < 2) || decide (hi - r.2 - 2 < q.2))) 5 q.1 = s4
      by_cases h4 : s4.2 = 0
      · rw [if_neg (show ¬ s4.2 ≠ 0 by simpa using h4), if_neg (show ¬ s4.2 ≠ 0 by simpa using h4)]
        exact ih _ _ _
      · right; rw [if_pos h4, if_pos h4]
    · right; rw [if_pos h2, if_pos h2]
theorem rack_ex {b y : List UInt8} {s : Nat × Int} {f : Fr} : (rack b s f).1.2 = 3 ∨ rack b s f = rack (b ++ y) s f := by
  unfold rack
  simp only []
  rcases rvar_ex (b := b) (y := y) (s := s) with e | e
  · left; rw [rvar_bad (bad3 e), rvar_bad (bad3 e), rfail_bad (bad3 e)]; exact rgo_bad3 e
  rw [← e]
  rcases rvar_ex (b := b) (y := y) (s := (rvar b s).1) with e | e
  · left; rw [rvar_bad (bad3 e), rfail_bad (bad3 e)]; exact rgo_bad3 e
  rw [← e]
  rcases rvar_ex (b := b) (y := y) (s := (rvar b (rvar b s).1).1) with e | e
  · left; rw [rfail_bad (bad3 e)]; exact rgo_bad3 e
  rw [← e]
  rcases rgo_ex (b := b) (y := y) (rvar b (rvar b (rvar b s).1).1).2 (rvar b s).2 (rfail (decide (8 ≤ (rvar b (rvar b (rvar b s).1).1).2)) 5 (rvar b (rvar b (rvar b s).1).1).1) f.rs with e | e
  · exact .inl e
  · right; rw [← e]
theorem rzero_ex {b y : List UInt8} {s : Nat × Int} : (rzero b s).2 = 3 ∨ rzero b s = rzero (b ++ y) s := by
  unfold rzero
  rcases rvar_ex (b := b) (y := y) (s := s) with e | e
  · left; rw [rfail_bad (bad3 e)]; exact e
  · right; rw [← e]
theorem rzero_bad3 {b : List UInt8} {s : Nat × Int} (h : s.2 = 3) : (rzero b s).2 = 3 := by
  unfold rzero
  rw [rvar_bad (bad3 h), rfail_bad (bad3 h)]
  exact h
theorem rcid_ex {b y : List UInt8} {s : Nat × Int} {f : Fr} (hl : s.1 ≤ b.length) : (rcid b s f).1.2 = 3 ∨ rcid b s f = rcid (b ++ y) s f := by
  unfold rcid
  simp only []
  have l1 := rvar_le b s hl
  rcases rvar_ex (b := b) (y := y) (s := s) with e | e
  · left; have e2 := rzero_bad3 (b := b) e; rw [rtake_bad (bad3 e2), rfail_bad (bad3 e2), rtake_bad (bad3 e2), rtake_bad (bad3 e2)]; exact e2
  rw [← e]
  have l2 := rzero_le b (rvar b s).1 l1
  rcases rzero_ex (b := b) (y := y) (s := (rvar b s).1) with e | e
  · left; rw [rtake_bad (bad3 e), rfail_bad (bad3 e), rtake_bad (bad3 e), rtake_bad (bad3 e)]; exact e
  rw [← e]
  generalize rzero b (rvar b s).1 = z at *
  have l3 := rtake_le b 1 z l2
  rcases rtake_ex (b := b) (y := y) (n := 1) (s := z) l2 with e | e
  · left; rw [rfail_bad (bad3 e), rtake_bad (bad3 e), rtake_bad (bad3 e)]; exact e
  rw [← e]
  generalize rtake b 1 z = k at *
  have l4 : (rfail (decide (k.2.length = 1) && (nth k.2 0 != 8)) 5 k.1).1 ≤ b.length := by rw [rfail_at]; exact l3
  generalize rfail (decide (k.2.length = 1) && (nth k.2 0 != 8)) 5 k.1 = s4 at *
  have l5 := rtake_le b 8 s4 l4
  rcases rtake_ex (b := b) (y := y) (n := 8) (s := s4) l4 with e | e
  · left; rw [rtake_bad (bad3 e)]; exact e
  rw [← e]
  rcases rtake_ex (b := b) (y := y) (n := 16) (s := (rtake b 8 s4).1) l5 with e | e
  · exact .inl e
  · right; rw [← e]
theorem rbody_ex {b y : List UInt8} {s : Nat × Int} {f : Fr} (hl : s.1 ≤ b.length) : (rbody b s f).1.2 = 3 ∨ rbody b s f = rbody (b ++ y) s f := by
  by_cases h1 : f.k = 1 ∨ f.k = 30
  · right; rw [rbody_1 b s f h1, rbody_1 (b ++ y) s f h1]
  by_cases h2 : f.k = 2
  · rw [rbody_2 b s f h2, rbody_2 (b ++ y) s f h2]; exact rack_ex
  by_cases h14 : f.k = 14 ∨ f.k = 15
  · rw [rbody_14 b s f h14, rbody_14 (b ++ y) s f h14]
    have l1 := rvar_le b s hl
    rcases rvar_ex (b := b) (y := y) (s := s) with e | e
    · left; exact rbytes_bad3 e
    · rw [← e]; exact rbytes_ex l1
  by_cases h6 : f.k = 6
  · rw [rbody_6 b s f h6, rbody_6 (b ++ y) s f h6]; exact rbytes_ex hl
  by_cases h16 : f.k = 16 ∨ f.k = 25
  · rw [rbody_16 b s f h16, rbody_16 (b ++ y) s f h16]
    rcases rvar_ex (b := b) (y := y) (s := s) with e | e
    · exact .inl e
    · right; rw [← e]
  by_cases h28 : f.k = 28
  · rw [rbody_28 b s f h28, rbody_28 (b ++ y) s f h28]
    rcases rvar_ex (b := b) (y := y) (s := s) with e | e
    · left; exact rzero_bad3 (rzero_bad3 e)
    rw [← e]
    rcases rzero_ex (b := b) (y := y) (s := (rvar b s).1) with e | e
    · left; exact rzero_bad3 e
    rw [← e]
    rcases rzero_ex (b := b) (y := y) (s := rzero b (rvar b s).1) with e | e
    · exact .inl e
    · right; rw [← e]
  by_cases h24 : f.k = 24
  · rw [rbody_24 b s f h24, rbody_24 (b ++ y) s f h24]; exact rcid_ex hl
  by_cases h26 : f.k = 26 ∨ f.k = 27
  · rw [rbody_26 b s f h26, rbody_26 (b ++ y) s f h26]
    rcases rtake_ex (b := b) (y := y) (n := 8) (s := s) hl with e | e
    · exact .inl e
    · right; rw [← e]
  right
  rw [rbody_no b s f (by omega), rbody_no (b ++ y) s f (by omega)]
theorem fget_err {b : List UInt8} (h : (fget b).2.2 ≠ 0) : fget b = (fr0, 0, (fget b).2.2) := by
  unfold fget at h ⊢
  split
  · rfl
  split
  · rfl
  split
  · rename_i a b' c
    rw [if_neg a, if_neg b', if_pos c] at h
    exact absurd rfl h
  · rename_i a b' c
    rw [if_neg a, if_neg b', if_neg c] at h
    simp only [] at h ⊢
    split
    · rfl
    · rename_i hz
      rw [if_neg hz] at h
      exact absurd rfl h
theorem fget_ex {b y : List UInt8} (h0 : b.length ≠ 0) (hz : nth b 0 ≠ 0) : (fget b).2.2 = 3 ∨ fget b = fget (b ++ y) := by
  have e0 : nth (b ++ y) 0 = nth b 0 := by
    unfold nth
    rw [List.getElem?_append_left (by omega)]
  unfold fget
  rw [if_neg h0, if_neg (show ¬ (b ++ y).length = 0 by rw [List.length_append]; omega), e0]
  by_cases h63 : 63 < n8 (nth b 0)
  · right; rw [if_pos h63, if_pos h63]
  rw [if_neg h63, if_neg h63, if_neg hz, if_neg hz]
  simp only []
  rcases rbody_ex (b := b) (y := y) (s := (1, 0)) (f := { fr0 with k := (n8 (nth b 0) : Nat) }) (by show 1 ≤ b.length; omega) with e | e
  · left; rw [if_pos (bad3 e)]; exact e
  · right; rw [← e]
theorem put_first {f : Fr} (hm : f.may = true) (hk : f.k ≠ 0) : nth f.put 0 ≠ 0 ∧ 1 ≤ f.put.length := by
  have hg := fget_put f hm hk []
  rw [List.append_nil] at hg
  have hne : f.put.length ≠ 0 := by
    intro e
    rw [List.eq_nil_of_length_eq_zero e] at hg
    simp [fget] at hg
  refine ⟨fun e => ?_, by omega⟩
  unfold fget at hg
  rw [if_neg hne, e, if_neg (by decide), if_pos rfl] at hg
  have := congrArg (fun q => q.1.k) hg
  exact hk this.symm
/-- A frame cut at its end is too short. -/
theorem fget_cut {f : Fr} (hm : f.may = true) (hk : f.k ≠ 0) (h1 : 1 < f.put.length) : fget f.put.dropLast = (fr0, 0, 3) := by
  obtain ⟨hz, _⟩ := put_first hm hk
  have hne : f.put ≠ [] := by intro e; rw [e] at h1; simp at h1
  have hl : f.put.dropLast.length = f.put.length - 1 := List.length_dropLast
  have happ : f.put.dropLast ++ [f.put.getLast hne] = f.put := List.dropLast_concat_getLast hne
  have h0 : nth f.put.dropLast 0 ≠ 0 := by
    intro e; apply hz
    rw [← happ]
    unfold nth at e ⊢
    rw [List.getElem?_append_left (by omega)]
    exact e
  have hg := fget_put f hm hk []
  rw [List.append_nil] at hg
  rcases fget_ex (y := [f.put.getLast hne]) (show f.put.dropLast.length ≠ 0 by omega) h0 with e | e
  · have := fget_err (b := f.put.dropLast) (by rw [e]; decide)
    rw [this, e]
  · rw [happ, hg] at e
    have := fget_many (b := f.put.dropLast) (by omega) (by rw [e])
    rw [e] at this
    simp only [] at this
    omega
def cat (fs : List Fr) : List UInt8 := fs.flatMap Fr.put
theorem cat_snoc (fs : List Fr) (f : Fr) : cat (fs ++ [f]) = cat fs ++ f.put := by simp [cat]
theorem fallR_cat : ∀ (fs : List Fr) (y : List UInt8) (out : List Fr), (∀ f, f ∈ fs → f.may = true ∧ f.k ≠ 0) → out.length + fs.length ≤ 64 → fallR (cat fs ++ y) out = fallR y (out ++ fs) := by
  intro fs
  induction fs with
  | nil => intro y out _ _; simp [cat]
  | cons f fs ih =>
    intro y out h hl
    have hf := h f List.mem_cons_self
    simp only [List.length_cons] at hl
    rw [show cat (f :: fs) ++ y = f.put ++ (cat fs ++ y) by simp [cat], fallR_frame hf.1 hf.2 (by omega), ih y _ (fun g hg => h g (List.mem_cons_of_mem _ hg)) (by simp; omega), List.append_assoc]
    rfl
theorem fall_cat (fs : List Fr) (h : ∀ f, f ∈ fs → f.may = true ∧ f.k ≠ 0) (h0 : fs ≠ []) (hl : fs.length ≤ 64) : fall (cat fs) = (fs, 0) := by
  show fallR (cat fs) [] = _
  have := fallR_cat fs [] [] h (by simpa using hl)
  rw [List.append_nil, List.nil_append] at this
  rw [this, fallR_nil _ (by simpa using h0)]
theorem fallR_err {b : List UInt8} {out : List Fr} {x : Int} (hb : b.length ≠ 0) (ho : out.length < 64) (hg : fget b = (fr0, 0, x)) (hx : x ≠ 0) : fallR b out = ([], x) := by
  obtain ⟨k, hk⟩ : ∃ k, b.length = k + 1 := ⟨b.length - 1, by omega⟩
  unfold fallR
  rw [hk, fallGo_succ, if_neg hb, if_neg (show ¬ out.length = 64 by omega), hg, if_pos hx]
/-- Frames one behind the other, the last cut at its end. -/
theorem fall_cat_cut (fs : List Fr) (f : Fr) (h : ∀ g, g ∈ fs ++ [f] → g.may = true ∧ g.k ≠ 0) (hl : fs.length < 64) :
    fall (cat (fs ++ [f])).dropLast = if 1 < f.put.length then ([], 3) else if fs.length = 0 then ([], 5) else (fs, 0) := by
  have hf := h f (by simp)
  have hfs : ∀ g, g ∈ fs → g.may = true ∧ g.k ≠ 0 := fun g hg => h g (by simp [hg])
  obtain ⟨_, h1⟩ := put_first hf.1 hf.2
  have hne : f.put ≠ [] := by intro e; rw [e] at h1; simp at h1
  have e : (cat (fs ++ [f])).dropLast = cat fs ++ f.put.dropLast := by rw [cat_snoc, List.dropLast_append_of_ne_nil hne]
  show fallR _ [] = _
  rw [e, fallR_cat fs _ [] hfs (by simp; omega), List.nil_append]
  by_cases hp : 1 < f.put.length
  · rw [if_pos hp, fallR_err (by rw [List.length_dropLast]; omega) hl (fget_cut hf.1 hf.2 hp) (by decide)]
  · rw [if_neg hp, List.eq_nil_of_length_eq_zero (l := f.put.dropLast) (by rw [List.length_dropLast]; omega)]
    by_cases h0 : fs.length = 0
    · rw [if_pos h0, List.eq_nil_of_length_eq_zero h0]; rfl
    · rw [if_neg h0, fallR_nil _ h0]
end Frm
end
