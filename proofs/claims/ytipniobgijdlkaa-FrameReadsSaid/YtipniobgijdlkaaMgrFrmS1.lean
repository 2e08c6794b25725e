/- The walk of package frame's Same: two frames are the same just if all that they have is. -/
import Derived.Test.YtipniobgijdlkaaMgrFrmE
namespace Frm
theorem Fr.eq_iff {f g : Fr} : f = g ↔ f.k = g.k ∧ f.n = g.n ∧ f.d = g.d ∧ f.i = g.i ∧ f.o = g.o ∧ f.fin = g.fin ∧ f.rs = g.rs ∧ f.dat = g.dat ∧ f.cid = g.cid ∧ f.tok = g.tok := by
  obtain ⟨a1, a2, a3, a4, a5, a6, a7, a8, a9, a10⟩ := f
  obtain ⟨b1, b2, b3, b4, b5, b6, b7, b8, b9, b10⟩ := g
  simp only [Fr.mk.injEq]
  constructor
  · rintro ⟨h1, h2, h3, h4, h5, h6, h7, h8, h9, h10⟩; exact ⟨h1, h2, h3, h5, h6, h7, h4, h8, h9, h10⟩
  · rintro ⟨h1, h2, h3, h5, h6, h7, h4, h8, h9, h10⟩; exact ⟨h1, h2, h3, h4, h5, h6, h7, h8, h9, h10⟩
def sameB (f g : Fr) : Bool := decide (f.k = g.k) && decide (f.n = g.n) && decide (f.d = g.d) && decide (f.i = g.i) && decide (f.o = g.o) && (f.fin == g.fin) && decide (f.rs = g.rs) && decide (f.dat = g.dat) && decide (f.cid = g.cid) && decide (f.tok = g.tok)
theorem sameB_iff {f g : Fr} : sameB f g = true ↔ f = g := by
  rw [Fr.eq_iff]
  simp only [sameB, Bool.and_eq_true, decide_eq_true_eq, beq_iff_eq, and_assoc]
theorem sameB_self (f : Fr) : sameB f f = true := sameB_iff.2 rfl
end Frm
namespace Go.Proofs.Ytipniobgijdlkaa
open Go.RowKit Go.Rw Frm Hdr
attribute [local go_sem ↓] ldFF stFF alFF ldRg stRg alRg
attribute [local go_sem] rldFF rstFF ralFF rldRg setRow_alloc_at setRow_alloc_past setRow_drew
set_option maxRecDepth 100000 in
set_option maxHeartbeats 4000000 in
theorem fsame_fr (f g : Fr) (hf : f.fits) (v u : Value) (w : World) (hv : Fv w v f) (hu : Fv w u g) :
    Calls Try.prog 32 #[v, u] w fun e w' => e = .returned (.bool (sameB f g)) ∧ Below w.heap.size w w' := by
  have hl := hf.1
  obtain ⟨vr, vd, vc, vt, rfl, hr, hd, hc, ht⟩ := hv
  obtain ⟨ur, ud, uc, ut, rfl, gr, gd, gc, gt⟩ := hu
  obtain ⟨ar, er, rfl, -, -, -⟩ := id hr
  obtain ⟨br, xr, rfl, -, -, -⟩ := id gr
  obtain ⟨ad, ed, rfl, -, -, -⟩ := id hd
  obtain ⟨bd, xd, rfl, -, -, -⟩ := id gd
  obtain ⟨ac, ec, rfl, -, -, -⟩ := id hc
  obtain ⟨bc, xc, rfl, -, -, -⟩ := id gc
  obtain ⟨at_, et, rfl, -, -, -⟩ := id ht
  obtain ⟨bt, xt, rfl, -, -, -⟩ := id gt
  obtain ⟨k, n, d, rs, i, o, fin, dat, cid, tok⟩ := f
  obtain ⟨k', n', d', rs', i', o', fin', dat', cid', tok'⟩ := g
  simp only [] at hr hd hc ht gr gd gc gt hl ⊢
  obtain ⟨r, hr0⟩ : ∃ r, sameB ⟨k, n, d, rs, i, o, fin, dat, cid, tok⟩ ⟨k', n', d', rs', i', o', fin', dat', cid', tok'⟩ = r := ⟨_, rfl⟩
  rw [hr0]
  unfold sameB at hr0
  simp only [] at hr0
  have fc := fun (W : World) (b : Nat) (h : row? W b = some (fvA k n d (.slice ar rs.length er) i o fin (.slice ad dat.length ed) (.slice ac cid.length ec) (.slice at_ tok.length et))) => fv_cells h
  have gc' := fun (W : World) (b : Nat) (h : row? W b = some (fvA k' n' d' (.slice br rs'.length xr) i' o' fin' (.slice bd dat'.length xd) (.slice bc cid'.length xc) (.slice bt tok'.length xt))) => fv_cells h
  generalize fvA k n d (.slice ar rs.length er) i o fin (.slice ad dat.length ed) (.slice ac cid.length ec) (.slice at_ tok.length et) = F at *
  generalize fvA k' n' d' (.slice br rs'.length xr) i' o' fin' (.slice bd dat'.length xd) (.slice bc cid'.length xc) (.slice bt tok'.length xt) = G at *
  have r1 : row? ((w.alloc (.cells F 28)).alloc (.cells G 28)) w.heap.size = some F := by rw [row?_alloc_past _ _ _ (by simp)]; exact row?_alloc_at _ _ _ _ rfl
  have r2 : row? ((w.alloc (.cells F 28)).alloc (.cells G 28)) (w.heap.size + 1) = some G := row?_alloc_at _ _ _ _ (by simp)
  obtain ⟨c0, c1, c2, c3, c4, c5, c6, c7, c8, c9⟩ := fc _ _ r1
  obtain ⟨d0, d1, d2, d3, d4, d5, d6, d7, d8, d9⟩ := gc' _ _ r2
  have B0 := Lib.hid (bel2 w (.cells F 28) (.cells G 28))
  have FC := Lib.hid fc
  have GC := Lib.hid gc'
  have R1 := Lib.hid r1
  have R2 := Lib.hid r2
  have HR0 := Lib.hid hr0
  have SR := Lib.hid hr
  have SD := Lib.hid hd
  have SC := Lib.hid hc
  have ST := Lib.hid ht
  have TR := Lib.hid gr
  have TD := Lib.hid gd
  have TC := Lib.hid gc
  have TT := Lib.hid gt
  clear fc gc' r1 r2 hr0 hr hd hc ht gr gd gc gt hf
  go_enter Try.func32, Try.ntmps32
  by_cases hk : k = k'
  case neg =>
    have q : (k == k') = false := by simpa using hk
    have Hk := Lib.hid hk
    clear hk
    go_wp2_with fail
    go_ret
    exact ⟨congrArg (fun z => Ending.returned (.bool z)) (by rw [← HR0.out, decide_eq_false Hk.out]; simp), B0.out⟩
  have qk : (k == k') = true := by simpa using hk
  have Hk := Lib.hid hk
  clear hk
  by_cases hn : n = n'
  case neg =>
    have q : (n == n') = false := by simpa using hn
    have q' : ((n : Int) == (n' : Nat)) = false := by rw [beq_eq_false_iff_ne]; omega
    have Hn := Lib.hid hn
    clear hn
    go_wp2_with fail
    go_ret
    exact ⟨congrArg (fun z => Ending.returned (.bool z)) (by rw [← HR0.out, decide_eq_true Hk.out, decide_eq_false Hn.out]; simp), B0.out⟩
  have qn : (n == n') = true := by simpa using hn
  have qn' : ((n : Int) == (n' : Nat)) = true := by rw [beq_iff_eq]; omega
  have Hn := Lib.hid hn
  clear hn
  by_cases hd : d = d'
  case neg =>
    have q : (d == d') = false := by simpa using hd
    have q' : ((d : Int) == (d' : Nat)) = false := by rw [beq_eq_false_iff_ne]; omega
    have Hd := Lib.hid hd
    clear hd
    go_wp2_with fail
    go_ret
    exact ⟨congrArg (fun z => Ending.returned (.bool z)) (by rw [← HR0.out, decide_eq_true Hk.out, decide_eq_true Hn.out, decide_eq_false Hd.out]; simp), B0.out⟩
  have qd : (d == d') = true := by simpa using hd
  have qd' : ((d : Int) == (d' : Nat)) = true := by rw [beq_iff_eq]; omega
  have Hd := Lib.hid hd
  clear hd
  by_cases hi : i = i'
  case neg =>
    have q : (i == i') = false := by simpa using hi
    have q' : ((i : Int) == (i' : Nat)) = false := by rw [beq_eq_false_iff_ne]; omega
    have Hi := Lib.hid hi
    clear hi
    go_wp2_with fail
    go_ret
    exact ⟨congrArg (fun z => Ending.returned (.bool z)) (by rw [← HR0.out, decide_eq_true Hk.out, decide_eq_true Hn.out, decide_eq_true Hd.out, decide_eq_false Hi.out]; simp), B0.out⟩
  have qi : (i == i') = true := by simpa using hi
  have qi' : ((i : Int) == (i' : Nat)) = true := by rw [beq_iff_eq]; omega
  have Hi := Lib.hid hi
  clear hi
  by_cases ho : o = o'
  case neg =>
    have q : (o == o') = false := by simpa using ho
    have q' : ((o : Int) == (o' : Nat)) = false := by rw [beq_eq_false_iff_ne]; omega
    have Ho := Lib.hid ho
    clear ho
    go_wp2_with fail
    go_ret
    exact ⟨congrArg (fun z => Ending.returned (.bool z)) (by rw [← HR0.out, decide_eq_true Hk.out, decide_eq_true Hn.out, decide_eq_true Hd.out, decide_eq_true Hi.out, decide_eq_false Ho.out]; simp), B0.out⟩
  have qo : (o == o') = true := by simpa using ho
  have qo' : ((o : Int) == (o' : Nat)) = true := by rw [beq_iff_eq]; omega
  have Ho := Lib.hid ho
  clear ho
  by_cases hfin : fin = fin'
  case neg =>
    have q : (fin == fin') = false := by simpa using hfin
    have Hfin := Lib.hid hfin
    clear hfin
    go_wp2_with fail
    go_ret
    exact ⟨congrArg (fun z => Ending.returned (.bool z)) (by rw [← HR0.out, decide_eq_true Hk.out, decide_eq_true Hn.out, decide_eq_true Hd.out, decide_eq_true Hi.out, decide_eq_true Ho.out, show (fin == fin') = false from by simpa using Hfin.out]; simp), B0.out⟩
  have qfin : (fin == fin') = true := by simpa using hfin
  have Hfin := Lib.hid hfin
  clear hfin
  go_wp2_with fail
  refine (rangesEq_any rs rs' hl _ _ _ (SR.out.below B0.out) (TR.out.below B0.out)).mono ?_
  rintro e w1 ⟨rfl, b1⟩
  have B1 := Lib.hid (B0.out.trans (b1.mono B0.out.size))
  obtain ⟨c0', c1', c2', c3', c4', c5', c6', c7', c8', c9'⟩ := FC.out _ _ (show row? w1 w.heap.size = some F by rw [row?_below b1 (row?_lt R1.out)]; exact R1.out)
  obtain ⟨d0', d1', d2', d3', d4', d5', d6', d7', d8', d9'⟩ := GC.out _ _ (show row? w1 (w.heap.size + 1) = some G by rw [row?_below b1 (row?_lt R2.out)]; exact R2.out)
  clear b1 c0 c1 c2 c3 c4 c5 c6 c7 c8 c9 d0 d1 d2 d3 d4 d5 d6 d7 d8 d9 c0' c1' c2' c3' c4' c5' c6' d0' d1' d2' d3' d4' d5' d6'
  by_cases hrs : rs = rs'
  case neg =>
    rw [decide_eq_false hrs]
    have Hrs := Lib.hid hrs
    clear hrs
    go_wp2_with fail
    go_ret
    exact ⟨congrArg (fun z => Ending.returned (.bool z)) (by rw [← HR0.out, decide_eq_true Hk.out, decide_eq_true Hn.out, decide_eq_true Hd.out, decide_eq_true Hi.out, decide_eq_true Ho.out, show (fin == fin') = true from by simpa using Hfin.out, decide_eq_false Hrs.out]; simp), B1.out⟩
  rw [decide_eq_true hrs]
  have Hrs := Lib.hid hrs
  clear hrs
  go_wp2_with fail
  refine (bytesEq_any dat dat' _ _ _ (SD.out.below B1.out) (TD.out.below B1.out)).mono ?_
  rintro e w2 ⟨rfl, rfl⟩
  by_cases hdat : dat = dat'
  case neg =>
    rw [decide_eq_false hdat]
    have Hdat := Lib.hid hdat
    clear hdat
    go_wp2_with fail
    go_ret
    exact ⟨congrArg (fun z => Ending.returned (.bool z)) (by rw [← HR0.out, decide_eq_true Hk.out, decide_eq_true Hn.out, decide_eq_true Hd.out, decide_eq_true Hi.out, decide_eq_true Ho.out, show (fin == fin') = true from by simpa using Hfin.out, decide_eq_true Hrs.out, decide_eq_false Hdat.out]; simp), B1.out⟩
  rw [decide_eq_true hdat]
  have Hdat := Lib.hid hdat
  clear hdat
  go_wp2_with fail
  refine (bytesEq_any cid cid' _ _ _ (SC.out.below B1.out) (TC.out.below B1.out)).mono ?_
  rintro e w2 ⟨rfl, rfl⟩
  by_cases hcid : cid = cid'
  case neg =>
    rw [decide_eq_false hcid]
    have Hcid := Lib.hid hcid
    clear hcid
    go_wp2_with fail
    go_ret
    exact ⟨congrArg (fun z => Ending.returned (.bool z)) (by rw [← HR0.out, decide_eq_true Hk.out, decide_eq_true Hn.out, decide_eq_true Hd.out, decide_eq_true Hi.out, decide_eq_true Ho.out, show (fin == fin') = true from by simpa using Hfin.out, decide_eq_true Hrs.out, decide_eq_true Hdat.out, decide_eq_false Hcid.out]; simp), B1.out⟩
  rw [decide_eq_true hcid]
  have Hcid := Lib.hid hcid
  clear hcid
  go_wp2_with fail
  refine (bytesEq_any tok tok' _ _ _ (ST.out.below B1.out) (TT.out.below B1.out)).mono ?_
  rintro e w2 ⟨rfl, rfl⟩
  by_cases htok : tok = tok'
  case neg =>
    rw [decide_eq_false htok]
    have Htok := Lib.hid htok
    clear htok
    go_wp2_with fail
    go_ret
    exact ⟨congrArg (fun z => Ending.returned (.bool z)) (by rw [← HR0.out, decide_eq_true Hk.out, decide_eq_true Hn.out, decide_eq_true Hd.out, decide_eq_true Hi.out, decide_eq_true Ho.out, show (fin == fin') = true from by simpa using Hfin.out, decide_eq_true Hrs.out, decide_eq_true Hdat.out, decide_eq_true Hcid.out, decide_eq_false Htok.out]; simp), B1.out⟩
  rw [decide_eq_true htok]
  have Htok := Lib.hid htok
  clear htok
  go_wp2_with fail
  go_ret
  exact ⟨congrArg (fun z => Ending.returned (.bool z)) (by rw [← HR0.out, decide_eq_true Hk.out, decide_eq_true Hn.out, decide_eq_true Hd.out, decide_eq_true Hi.out, decide_eq_true Ho.out, show (fin == fin') = true from by simpa using Hfin.out, decide_eq_true Hrs.out, decide_eq_true Hdat.out, decide_eq_true Hcid.out, decide_eq_true Htok.out]; simp), B1.out⟩
end Go.Proofs.Ytipniobgijdlkaa
