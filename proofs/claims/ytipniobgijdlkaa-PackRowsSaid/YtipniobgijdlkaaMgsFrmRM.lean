/- The walk of mantillaref7's May, at any frame. -/
import Derived.Test.YtipniobgijdlkaaMgsFrmF2
import Derived.Test.YtipniobgijdlkaaMgs12
import Derived.Deep.DeepCutAuto
import Derived.Deep.CutBlock
namespace Go.Proofs.Ytipniobgijdlkaa
open Go.RowKit Go.Rw Frm Hdr
attribute [local go_sem ↓] ldFF stFF alFF
attribute [local go_sem] rldFF rstFF ralFF setRow_alloc_at setRow_alloc_past setRow_drew
set_option maxRecDepth 400000 in
set_option maxHeartbeats 4000000 in
theorem frmay_any (k : Int) (n d i o : Nat) (fin : Bool) (a1 a2 a3 a4 : Option Addr) (nr nd nc nt e1 e2 e3 e4 : Nat) (rs : List (Nat × Nat)) (hrl : rs.length ≤ 1000000) (w : World) (hs : Sr w (.slice a1 nr e1) rs) :
    Calls Try.prog 15 #[.agg (fvA k n d (.slice a1 nr e1) i o fin (.slice a2 nd e2) (.slice a3 nc e3) (.slice a4 nt e4))] w fun e w' => e = .returned (.bool (mayB k n d nr (rsOk rs) i o fin nd nc nt)) ∧ Below w.heap.size w w' := by
  have hfl := fun W hW => ranges_any rs hrl (.slice a1 nr e1) W hW
  have fc := fun (W : World) (b : Nat) (h : row? W b = some (fvA k n d (.slice a1 nr e1) i o fin (.slice a2 nd e2) (.slice a3 nc e3) (.slice a4 nt e4))) => fv_cells h
  have hz : (fvA k n d (.slice a1 nr e1) i o fin (.slice a2 nd e2) (.slice a3 nc e3) (.slice a4 nt e4)).size = 10 := rfl
  have ha : allOne (fvA k n d (.slice a1 nr e1) i o fin (.slice a2 nd e2) (.slice a3 nc e3) (.slice a4 nt e4)) = true := fvA_all k n d a1 a2 a3 a4 nr nd nc nt e1 e2 e3 e4 i o fin
  have HS := Lib.hid hs
  have R1 := row?_alloc_at w (fvA k n d (.slice a1 nr e1) i o fin (.slice a2 nd e2) (.slice a3 nc e3) (.slice a4 nt e4)) 28 w.heap.size rfl
  generalize hF : fvA k n d (.slice a1 nr e1) i o fin (.slice a2 nd e2) (.slice a3 nc e3) (.slice a4 nt e4) = F at *
  have HF := Lib.hid hF
  have l1 := rldFF (w.alloc (.cells F 28)) w.heap.size (by rw [R1, Option.map_some, hz])
  rw [R1] at l1
  have l1' : (loadAgg 28 (.pointer (some ⟨w.heap.size, 0, none⟩))).run Try.prog (w.alloc (.cells F 28)) = .ok (.agg F) (w.alloc (.cells F 28)) := l1
  generalize hok : rsOk rs = ok at *
  have HFL := Lib.hid hfl
  have FC := Lib.hid fc
  obtain ⟨r, hr⟩ : ∃ r, mayB k n d nr ok i o fin nd nc nt = r := ⟨_, rfl⟩
  rw [hr]
  have HR := Lib.hid hr
  clear hfl fc hr hs hF l1 R1 hok
  go_enter Try.func15, Try.ntmps15
  go_wp2_with (with_reducible refine Rw.hold_ops 6 ?_)
  refine Rw.Held.mk ?_
  have RF := Lib.hid (show row? ((w.alloc (.cells F 28)).alloc (.cells F 28)) w.heap.size = some F by rw [row?_alloc_past _ _ _ (by simp)]; exact row?_alloc_at _ _ _ _ rfl)
  have RG := Lib.hid (show row? ((w.alloc (.cells F 28)).alloc (.cells F 28)) (w.heap.size + 1) = some F from row?_alloc_at _ _ _ _ (by simp))
  have BW := Lib.hid (bel2 w (.cells F 28) (.cells F 28))
  generalize ((w.alloc (.cells F 28)).alloc (.cells F 28)) = W at RF RG BW ⊢
  obtain ⟨c0, c1, c2, c3, c4, c5, c6, c7, c8, c9⟩ := FC.out _ _ RF.out
  obtain ⟨d0, d1, d2, d3, d4, d5, d6, d7, d8, d9⟩ := FC.out _ _ RG.out
  have hfz : ∀ j, W.frozen? ⟨w.heap.size + 1, j, none⟩ = false := row?_frozen RG.out
  clear l1'
  by_cases k0 : k = 0
  case pos =>
    subst k0
    go_upto_block 0 with (fail)
    go_cut [4] (fun t wx => t = .bool (decide (1 ≤ n ∧ n ≤ 16384)) ∧ (W.setCell ⟨w.heap.size + 1, 1, none⟩ (.int .u64 0)) = wx)
    case first =>
      by_cases g : 1 ≤ n
      case neg =>
        have q : decide ((1 : Int) ≤ (n : Nat)) = false := decide_eq_false (by omega)
        have G := Lib.hid g
        clear g
        go_wp2_with fail
        go_meet
        exact ⟨by simp [show ¬ 1 ≤ n from G.out], rfl⟩
      have q : decide ((1 : Int) ≤ (n : Nat)) = true := decide_eq_true (by omega)
      have G := Lib.hid g
      clear g
      by_cases g2 : n ≤ 16384
      · have q2 : decide ((n : Int) ≤ 16384) = true := decide_eq_true (by omega)
        have G2 := Lib.hid g2
        clear g2
        go_wp2_with fail
        go_meet
        exact ⟨by simp [show 1 ≤ n from G.out, show n ≤ 16384 from G2.out], rfl⟩
      · have q2 : decide ((n : Int) ≤ 16384) = false := decide_eq_false (by omega)
        have G2 := Lib.hid g2
        clear g2
        go_wp2_with fail
        go_meet
        exact ⟨by simp [show 1 ≤ n from G.out, show ¬ n ≤ 16384 from G2.out], rfl⟩
    obtain ⟨rfl, hw⟩ := hcut
    have hG : (F.setIfInBounds 1 (.int .u64 0)) = fvA 0 0 d (.slice a1 nr e1) i o fin (.slice a2 nd e2) (.slice a3 nc e3) (.slice a4 nt e4) := by rw [← HF.out]; rfl
    have RG2 : row? (W.setCell ⟨w.heap.size + 1, 1, none⟩ (.int .u64 0)) (w.heap.size + 1) = some (fvA 0 0 d (.slice a1 nr e1) i o fin (.slice a2 nd e2) (.slice a3 nc e3) (.slice a4 nt e4)) := hG ▸ (row?_setCell_eq RG.out (.int .u64 0))
    have BW2 : Below w.heap.size w (W.setCell ⟨w.heap.size + 1, 1, none⟩ (.int .u64 0)) := (BW.out.setCell (p := ⟨w.heap.size + 1, 1, none⟩) (by simp) (.int .u64 0))
    have hp := plain_any 0 0 d i o fin a1 a2 a3 a4 nr nd nc nt e1 e2 e3 e4
    have hzG : (fvA 0 0 d (.slice a1 nr e1) i o fin (.slice a2 nd e2) (.slice a3 nc e3) (.slice a4 nt e4)).size = 10 := rfl
    generalize hGG : fvA 0 0 d (.slice a1 nr e1) i o fin (.slice a2 nd e2) (.slice a3 nc e3) (.slice a4 nt e4) = G at *
    have h2 : (decide (1 ≤ n ∧ n ≤ 16384) && plainB 0 d nr i o fin nd nc nt) = r := HR.out
    have H2 := Lib.hid h2
    have HP := Lib.hid hp
    clear h2 hp hG hGG HF HR c0 c1 c2 c3 c4 c5 c6 c7 c8 c9 d0 d1 d2 d3 d4 d5 d6 d7 d8 d9 hfz
    rw [hw] at RG2 BW2
    have RG4 := Lib.hid RG2
    have BW4 := Lib.hid BW2
    clear hw RG2 BW2
    obtain ⟨x, hx⟩ : ∃ x, (decide (1 ≤ n ∧ n ≤ 16384)) = x := ⟨_, rfl⟩
    rw [hx]
    have HX := Lib.hid hx
    clear hx
    cases x
    case false =>
      go_wp2_with fail
      go_ret
      exact ⟨congrArg (fun z => Ending.returned (.bool z)) (by rw [← H2.out, HX.out]; rfl), BW4.out⟩
    have lg := rldFF wc (w.heap.size + 1) (by rw [RG4.out, Option.map_some, hzG])
    rw [RG4.out] at lg
    have lg' : (loadAgg 28 (.pointer (some ⟨w.heap.size + 1, 0, none⟩))).run Try.prog wc = .ok (.agg G) wc := lg
    clear lg
    go_wp2_with fail
    refine (HP.out _).mono ?_
    rintro e wz ⟨rfl, bz⟩
    have BZ := Lib.hid (BW4.out.trans (bz.mono BW4.out.size))
    clear bz lg'
    go_wp2_with fail
    go_ret
    exact ⟨congrArg (fun z => Ending.returned (.bool z)) (by rw [← H2.out, HX.out]; rfl), BZ.out⟩
  have q0 : (k == 0) = false := by simpa using k0
  by_cases k1 : k = 1
  case pos =>
    subst k1
    have hG : F = fvA 1 n d (.slice a1 nr e1) i o fin (.slice a2 nd e2) (.slice a3 nc e3) (.slice a4 nt e4) := HF.out.symm
    have RG2 : row? W (w.heap.size + 1) = some (fvA 1 n d (.slice a1 nr e1) i o fin (.slice a2 nd e2) (.slice a3 nc e3) (.slice a4 nt e4)) := hG ▸ RG.out
    have BW2 : Below w.heap.size w W := BW.out
    have hp := plain_any 1 n d i o fin a1 a2 a3 a4 nr nd nc nt e1 e2 e3 e4
    have hzG : (fvA 1 n d (.slice a1 nr e1) i o fin (.slice a2 nd e2) (.slice a3 nc e3) (.slice a4 nt e4)).size = 10 := rfl
    generalize hGG : fvA 1 n d (.slice a1 nr e1) i o fin (.slice a2 nd e2) (.slice a3 nc e3) (.slice a4 nt e4) = G at *
    have h2 : plainB n d nr i o fin nd nc nt = r := HR.out
    have H2 := Lib.hid h2
    have HP := Lib.hid hp
    clear h2 hp hG hGG HF HR c0 c1 c2 c3 c4 c5 c6 c7 c8 c9 d0 d1 d2 d3 d4 d5 d6 d7 d8 d9 hfz
    have RG4 := Lib.hid RG2
    have BW4 := Lib.hid BW2
    clear RG2 BW2
    obtain ⟨c0, c1, c2, c3, c4, c5, c6, c7, c8, c9⟩ := FC.out _ _ RF.out
    have lg := rldFF W (w.heap.size + 1) (by rw [RG4.out, Option.map_some, hzG])
    rw [RG4.out] at lg
    have lg' : (loadAgg 28 (.pointer (some ⟨w.heap.size + 1, 0, none⟩))).run Try.prog W = .ok (.agg G) W := lg
    clear lg
    go_wp2_with fail
    refine (HP.out _).mono ?_
    rintro e wz ⟨rfl, bz⟩
    have BZ := Lib.hid (BW4.out.trans (bz.mono BW4.out.size))
    clear bz lg'
    go_wp2_with fail
    go_ret
    exact ⟨congrArg (fun z => Ending.returned (.bool z)) (H2.out), BZ.out⟩
  have q1 : (k == 1) = false := by simpa using k1
  by_cases k30 : k = 30
  case pos =>
    subst k30
    have hG : F = fvA 30 n d (.slice a1 nr e1) i o fin (.slice a2 nd e2) (.slice a3 nc e3) (.slice a4 nt e4) := HF.out.symm
    have RG2 : row? W (w.heap.size + 1) = some (fvA 30 n d (.slice a1 nr e1) i o fin (.slice a2 nd e2) (.slice a3 nc e3) (.slice a4 nt e4)) := hG ▸ RG.out
    have BW2 : Below w.heap.size w W := BW.out
    have hp := plain_any 30 n d i o fin a1 a2 a3 a4 nr nd nc nt e1 e2 e3 e4
    have hzG : (fvA 30 n d (.slice a1 nr e1) i o fin (.slice a2 nd e2) (.slice a3 nc e3) (.slice a4 nt e4)).size = 10 := rfl
    generalize hGG : fvA 30 n d (.slice a1 nr e1) i o fin (.slice a2 nd e2) (.slice a3 nc e3) (.slice a4 nt e4) = G at *
    have h2 : plainB n d nr i o fin nd nc nt = r := HR.out
    have H2 := Lib.hid h2
    have HP := Lib.hid hp
    clear h2 hp hG hGG HF HR c0 c1 c2 c3 c4 c5 c6 c7 c8 c9 d0 d1 d2 d3 d4 d5 d6 d7 d8 d9 hfz
    have RG4 := Lib.hid RG2
    have BW4 := Lib.hid BW2
    clear RG2 BW2
    obtain ⟨c0, c1, c2, c3, c4, c5, c6, c7, c8, c9⟩ := FC.out _ _ RF.out
    have lg := rldFF W (w.heap.size + 1) (by rw [RG4.out, Option.map_some, hzG])
    rw [RG4.out] at lg
    have lg' : (loadAgg 28 (.pointer (some ⟨w.heap.size + 1, 0, none⟩))).run Try.prog W = .ok (.agg G) W := lg
    clear lg
    go_wp2_with fail
    refine (HP.out _).mono ?_
    rintro e wz ⟨rfl, bz⟩
    have BZ := Lib.hid (BW4.out.trans (bz.mono BW4.out.size))
    clear bz lg'
    go_wp2_with fail
    go_ret
    exact ⟨congrArg (fun z => Ending.returned (.bool z)) (H2.out), BZ.out⟩
  have q30 : (k == 30) = false := by simpa using k30
  by_cases k2 : k = 2
  case pos =>
    subst k2
    have SW2 : Sr ((W.setCell ⟨w.heap.size + 1, 2, none⟩ (.int .u64 0)).setCell ⟨w.heap.size + 1, 3, none⟩ (.slice none 0 0)) (.slice a1 nr e1) rs := HS.out.below ((BW.out.setCell (p := ⟨w.heap.size + 1, 2, none⟩) (by simp) (.int .u64 0)).setCell (p := ⟨w.heap.size + 1, 3, none⟩) (by simp) (.slice none 0 0))
    have SW3 := Lib.hid SW2
    clear SW2
    go_upto_block 0 with (fail)
    go_cut [4] (fun t wx => t = .bool (decide (d ≤ 4611686018427387903) && ok) ∧ Below ((W.setCell ⟨w.heap.size + 1, 2, none⟩ (.int .u64 0)).setCell ⟨w.heap.size + 1, 3, none⟩ (.slice none 0 0)).heap.size ((W.setCell ⟨w.heap.size + 1, 2, none⟩ (.int .u64 0)).setCell ⟨w.heap.size + 1, 3, none⟩ (.slice none 0 0)) wx)
    case first =>
      by_cases g : d ≤ 4611686018427387903
      case neg =>
        have q : decide ((d : Int) ≤ 4611686018427387903) = false := decide_eq_false (by omega)
        have G := Lib.hid g
        clear g
        go_wp2_with fail
        go_meet
        exact ⟨by rw [decide_eq_false G.out]; rfl, Below.refl _ _⟩
      have q : decide ((d : Int) ≤ 4611686018427387903) = true := decide_eq_true (by omega)
      have G := Lib.hid g
      clear g
      go_wp2_with fail
      refine (HFL.out _ SW3.out).mono ?_
      rintro e wy ⟨rfl, by1⟩
      have BY := Lib.hid by1
      clear by1
      go_wp2_with fail
      go_meet
      exact ⟨by rw [decide_eq_true G.out]; rfl, BY.out⟩
    obtain ⟨rfl, hw⟩ := hcut
    have hG : ((F.setIfInBounds 2 (.int .u64 0)).setIfInBounds 3 (.slice none 0 0)) = fvA 2 n 0 (.slice none 0 0) i o fin (.slice a2 nd e2) (.slice a3 nc e3) (.slice a4 nt e4) := by rw [← HF.out]; rfl
    have RG2 : row? ((W.setCell ⟨w.heap.size + 1, 2, none⟩ (.int .u64 0)).setCell ⟨w.heap.size + 1, 3, none⟩ (.slice none 0 0)) (w.heap.size + 1) = some (fvA 2 n 0 (.slice none 0 0) i o fin (.slice a2 nd e2) (.slice a3 nc e3) (.slice a4 nt e4)) := hG ▸ (row?_setCell_eq (row?_setCell_eq RG.out (.int .u64 0)) (.slice none 0 0))
    have BW2 : Below w.heap.size w ((W.setCell ⟨w.heap.size + 1, 2, none⟩ (.int .u64 0)).setCell ⟨w.heap.size + 1, 3, none⟩ (.slice none 0 0)) := ((BW.out.setCell (p := ⟨w.heap.size + 1, 2, none⟩) (by simp) (.int .u64 0)).setCell (p := ⟨w.heap.size + 1, 3, none⟩) (by simp) (.slice none 0 0))
    have hp := plain_any 2 n 0 i o fin none a2 a3 a4 0 nd nc nt 0 e2 e3 e4
    have hzG : (fvA 2 n 0 (.slice none 0 0) i o fin (.slice a2 nd e2) (.slice a3 nc e3) (.slice a4 nt e4)).size = 10 := rfl
    generalize hGG : fvA 2 n 0 (.slice none 0 0) i o fin (.slice a2 nd e2) (.slice a3 nc e3) (.slice a4 nt e4) = G at *
    have h2 : (decide (d ≤ 4611686018427387903) && ok && plainB n 0 0 i o fin nd nc nt) = r := HR.out
    have H2 := Lib.hid h2
    have HP := Lib.hid hp
    clear h2 hp hG hGG HF HR c0 c1 c2 c3 c4 c5 c6 c7 c8 c9 d0 d1 d2 d3 d4 d5 d6 d7 d8 d9 hfz
    have RG4 := Lib.hid (show row? wc (w.heap.size + 1) = some G by rw [row?_below hw (row?_lt RG2)]; exact RG2)
    have BW4 := Lib.hid (BW2.trans (hw.mono BW2.size))
    clear hw RG2 BW2
    obtain ⟨x, hx⟩ : ∃ x, (decide (d ≤ 4611686018427387903) && ok) = x := ⟨_, rfl⟩
    rw [hx]
    have HX := Lib.hid hx
    clear hx
    cases x
    case false =>
      go_wp2_with fail
      go_ret
      exact ⟨congrArg (fun z => Ending.returned (.bool z)) (by rw [← H2.out, HX.out]; rfl), BW4.out⟩
    have lg := rldFF wc (w.heap.size + 1) (by rw [RG4.out, Option.map_some, hzG])
    rw [RG4.out] at lg
    have lg' : (loadAgg 28 (.pointer (some ⟨w.heap.size + 1, 0, none⟩))).run Try.prog wc = .ok (.agg G) wc := lg
    clear lg
    go_wp2_with fail
    refine (HP.out _).mono ?_
    rintro e wz ⟨rfl, bz⟩
    have BZ := Lib.hid (BW4.out.trans (bz.mono BW4.out.size))
    clear bz lg'
    go_wp2_with fail
    go_ret
    exact ⟨congrArg (fun z => Ending.returned (.bool z)) (by rw [← H2.out, HX.out]; rfl), BZ.out⟩
  have q2 : (k == 2) = false := by simpa using k2
  by_cases k6 : k = 6
  case pos =>
    subst k6
    go_upto_block 0 with (fail)
    go_cut [4] (fun t wx => t = .bool (decide (nd < 16384 ∧ i ≤ 4611686018427387903 ∧ o + nd ≤ 4611686018427387903)) ∧ ((W.setCell ⟨w.heap.size + 1, 5, none⟩ (.int .u64 0)).setCell ⟨w.heap.size + 1, 7, none⟩ (.slice none 0 0)) = wx)
    case first =>
      by_cases g : nd < 16384
      case neg =>
        have q : decide ((nd : Int) < 16384) = false := decide_eq_false (by omega)
        have G := Lib.hid g
        clear g
        go_wp2_with fail
        go_meet
        exact ⟨by simp [show ¬ nd < 16384 from G.out], rfl⟩
      have q : decide ((nd : Int) < 16384) = true := decide_eq_true (by omega)
      by_cases g1 : i ≤ 4611686018427387903
      case neg =>
        have q1 : decide ((i : Int) ≤ 4611686018427387903) = false := decide_eq_false (by omega)
        have G1 := Lib.hid g1
        clear g g1
        go_wp2_with fail
        go_meet
        exact ⟨by simp [show ¬ i ≤ 4611686018427387903 from G1.out], rfl⟩
      have q1 : decide ((i : Int) ≤ 4611686018427387903) = true := decide_eq_true (by omega)
      have hw : IntKind.u64.wrap ((nd : Nat) : Int) = (nd : Nat) := by simp only [IntKind.wrap_u64]; omega
      have hw2 : IntKind.u64.wrap (4611686018427387903 - ((nd : Nat) : Int)) = 4611686018427387903 - (nd : Nat) := by simp only [IntKind.wrap_u64]; omega
      by_cases g2 : o + nd ≤ 4611686018427387903
      · have q2 : decide ((o : Int) ≤ 4611686018427387903 - (nd : Nat)) = true := decide_eq_true (by omega)
        have G := Lib.hid g
        have G1 := Lib.hid g1
        have G2 := Lib.hid g2
        clear g g1 g2
        go_wp2_with fail
        go_meet
        exact ⟨by simp [show nd < 16384 from G.out, show i ≤ 4611686018427387903 from G1.out, show o + nd ≤ 4611686018427387903 from G2.out], rfl⟩
      · have q2 : decide ((o : Int) ≤ 4611686018427387903 - (nd : Nat)) = false := decide_eq_false (by omega)
        have G2 := Lib.hid g2
        clear g g1 g2
        go_wp2_with fail
        go_meet
        exact ⟨by simp [show ¬ o + nd ≤ 4611686018427387903 from G2.out], rfl⟩
    obtain ⟨rfl, hw⟩ := hcut
    have hG : ((F.setIfInBounds 5 (.int .u64 0)).setIfInBounds 7 (.slice none 0 0)) = fvA 6 n d (.slice a1 nr e1) i 0 fin (.slice none 0 0) (.slice a3 nc e3) (.slice a4 nt e4) := by rw [← HF.out]; rfl
    have RG2 : row? ((W.setCell ⟨w.heap.size + 1, 5, none⟩ (.int .u64 0)).setCell ⟨w.heap.size + 1, 7, none⟩ (.slice none 0 0)) (w.heap.size + 1) = some (fvA 6 n d (.slice a1 nr e1) i 0 fin (.slice none 0 0) (.slice a3 nc e3) (.slice a4 nt e4)) := hG ▸ (row?_setCell_eq (row?_setCell_eq RG.out (.int .u64 0)) (.slice none 0 0))
    have BW2 : Below w.heap.size w ((W.setCell ⟨w.heap.size + 1, 5, none⟩ (.int .u64 0)).setCell ⟨w.heap.size + 1, 7, none⟩ (.slice none 0 0)) := ((BW.out.setCell (p := ⟨w.heap.size + 1, 5, none⟩) (by simp) (.int .u64 0)).setCell (p := ⟨w.heap.size + 1, 7, none⟩) (by simp) (.slice none 0 0))
    have hp := plain_any 6 n d i 0 fin a1 none a3 a4 nr 0 nc nt e1 0 e3 e4
    have hzG : (fvA 6 n d (.slice a1 nr e1) i 0 fin (.slice none 0 0) (.slice a3 nc e3) (.slice a4 nt e4)).size = 10 := rfl
    generalize hGG : fvA 6 n d (.slice a1 nr e1) i 0 fin (.slice none 0 0) (.slice a3 nc e3) (.slice a4 nt e4) = G at *
    have h2 : (decide (nd < 16384 ∧ i ≤ 4611686018427387903 ∧ o + nd ≤ 4611686018427387903) && plainB n d nr i 0 fin 0 nc nt) = r := HR.out
    have H2 := Lib.hid h2
    have HP := Lib.hid hp
    clear h2 hp hG hGG HF HR c0 c1 c2 c3 c4 c5 c6 c7 c8 c9 d0 d1 d2 d3 d4 d5 d6 d7 d8 d9 hfz
    rw [hw] at RG2 BW2
    have RG4 := Lib.hid RG2
    have BW4 := Lib.hid BW2
    clear hw RG2 BW2
    obtain ⟨x, hx⟩ : ∃ x, (decide (nd < 16384 ∧ i ≤ 4611686018427387903 ∧ o + nd ≤ 4611686018427387903)) = x := ⟨_, rfl⟩
    rw [hx]
    have HX := Lib.hid hx
    clear hx
    cases x
    case false =>
      go_wp2_with fail
      go_ret
      exact ⟨congrArg (fun z => Ending.returned (.bool z)) (by rw [← H2.out, HX.out]; rfl), BW4.out⟩
    have lg := rldFF wc (w.heap.size + 1) (by rw [RG4.out, Option.map_some, hzG])
    rw [RG4.out] at lg
    have lg' : (loadAgg 28 (.pointer (some ⟨w.heap.size + 1, 0, none⟩))).run Try.prog wc = .ok (.agg G) wc := lg
    clear lg
    go_wp2_with fail
    refine (HP.out _).mono ?_
    rintro e wz ⟨rfl, bz⟩
    have BZ := Lib.hid (BW4.out.trans (bz.mono BW4.out.size))
    clear bz lg'
    go_wp2_with fail
    go_ret
    exact ⟨congrArg (fun z => Ending.returned (.bool z)) (by rw [← H2.out, HX.out]; rfl), BZ.out⟩
  have q6 : (k == 6) = false := by simpa using k6
  by_cases k8 : k = 8
  case pos =>
    subst k8
    go_upto_block 0 with (fail)
    go_cut [4] (fun t wx => t = .bool (decide (nd < 16384 ∧ i ≤ 4611686018427387903 ∧ o + nd ≤ 4611686018427387903)) ∧ ((((W.setCell ⟨w.heap.size + 1, 5, none⟩ (.int .u64 0)).setCell ⟨w.heap.size + 1, 7, none⟩ (.slice none 0 0)).setCell ⟨w.heap.size + 1, 4, none⟩ (.int .u64 0)).setCell ⟨w.heap.size + 1, 6, none⟩ (.bool false)) = wx)
    case first =>
      by_cases g : nd < 16384
      case neg =>
        have q : decide ((nd : Int) < 16384) = false := decide_eq_false (by omega)
        have G := Lib.hid g
        clear g
        go_wp2_with fail
        go_meet
        exact ⟨by simp [show ¬ nd < 16384 from G.out], rfl⟩
      have q : decide ((nd : Int) < 16384) = true := decide_eq_true (by omega)
      by_cases g1 : i ≤ 4611686018427387903
      case neg =>
        have q1 : decide ((i : Int) ≤ 4611686018427387903) = false := decide_eq_false (by omega)
        have G1 := Lib.hid g1
        clear g g1
        go_wp2_with fail
        go_meet
        exact ⟨by simp [show ¬ i ≤ 4611686018427387903 from G1.out], rfl⟩
      have q1 : decide ((i : Int) ≤ 4611686018427387903) = true := decide_eq_true (by omega)
      have hw : IntKind.u64.wrap ((nd : Nat) : Int) = (nd : Nat) := by simp only [IntKind.wrap_u64]; omega
      have hw2 : IntKind.u64.wrap (4611686018427387903 - ((nd : Nat) : Int)) = 4611686018427387903 - (nd : Nat) := by simp only [IntKind.wrap_u64]; omega
      by_cases g2 : o + nd ≤ 4611686018427387903
      · have q2 : decide ((o : Int) ≤ 4611686018427387903 - (nd : Nat)) = true := decide_eq_true (by omega)
        have G := Lib.hid g
        have G1 := Lib.hid g1
        have G2 := Lib.hid g2
        clear g g1 g2
        go_wp2_with fail
        go_meet
        exact ⟨by simp [show nd < 16384 from G.out, show i ≤ 4611686018427387903 from G1.out, show o + nd ≤ 4611686018427387903 from G2.out], rfl⟩
      · have q2 : decide ((o : Int) ≤ 4611686018427387903 - (nd : Nat)) = false := decide_eq_false (by omega)
        have G2 := Lib.hid g2
        clear g g1 g2
        go_wp2_with fail
        go_meet
        exact ⟨by simp [show ¬ o + nd ≤ 4611686018427387903 from G2.out], rfl⟩
    obtain ⟨rfl, hw⟩ := hcut
    have hG : ((((F.setIfInBounds 5 (.int .u64 0)).setIfInBounds 7 (.slice none 0 0)).setIfInBounds 4 (.int .u64 0)).setIfInBounds 6 (.bool false)) = fvA 8 n d (.slice a1 nr e1) 0 0 false (.slice none 0 0) (.slice a3 nc e3) (.slice a4 nt e4) := by rw [← HF.out]; rfl
    have RG2 : row? ((((W.setCell ⟨w.heap.size + 1, 5, none⟩ (.int .u64 0)).setCell ⟨w.heap.size + 1, 7, none⟩ (.slice none 0 0)).setCell ⟨w.heap.size + 1, 4, none⟩ (.int .u64 0)).setCell ⟨w.heap.size + 1, 6, none⟩ (.bool false)) (w.heap.size + 1) = some (fvA 8 n d (.slice a1 nr e1) 0 0 false (.slice none 0 0) (.slice a3 nc e3) (.slice a4 nt e4)) := hG ▸ (row?_setCell_eq (row?_setCell_eq (row?_setCell_eq (row?_setCell_eq RG.out (.int .u64 0)) (.slice none 0 0)) (.int .u64 0)) (.bool false))
    have BW2 : Below w.heap.size w ((((W.setCell ⟨w.heap.size + 1, 5, none⟩ (.int .u64 0)).setCell ⟨w.heap.size + 1, 7, none⟩ (.slice none 0 0)).setCell ⟨w.heap.size + 1, 4, none⟩ (.int .u64 0)).setCell ⟨w.heap.size + 1, 6, none⟩ (.bool false)) := ((((BW.out.setCell (p := ⟨w.heap.size + 1, 5, none⟩) (by simp) (.int .u64 0)).setCell (p := ⟨w.heap.size + 1, 7, none⟩) (by simp) (.slice none 0 0)).setCell (p := ⟨w.heap.size + 1, 4, none⟩) (by simp) (.int .u64 0)).setCell (p := ⟨w.heap.size + 1, 6, none⟩) (by simp) (.bool false))
    have hp := plain_any 8 n d 0 0 false a1 none a3 a4 nr 0 nc nt e1 0 e3 e4
    have hzG : (fvA 8 n d (.slice a1 nr e1) 0 0 false (.slice none 0 0) (.slice a3 nc e3) (.slice a4 nt e4)).size = 10 := rfl
    generalize hGG : fvA 8 n d (.slice a1 nr e1) 0 0 false (.slice none 0 0) (.slice a3 nc e3) (.slice a4 nt e4) = G at *
    have h2 : (decide (nd < 16384 ∧ i ≤ 4611686018427387903 ∧ o + nd ≤ 4611686018427387903) && plainB n d nr 0 0 false 0 nc nt) = r := HR.out
    have H2 := Lib.hid h2
    have HP := Lib.hid hp
    clear h2 hp hG hGG HF HR c0 c1 c2 c3 c4 c5 c6 c7 c8 c9 d0 d1 d2 d3 d4 d5 d6 d7 d8 d9 hfz
    rw [hw] at RG2 BW2
    have RG4 := Lib.hid RG2
    have BW4 := Lib.hid BW2
    clear hw RG2 BW2
    obtain ⟨x, hx⟩ : ∃ x, (decide (nd < 16384 ∧ i ≤ 4611686018427387903 ∧ o + nd ≤ 4611686018427387903)) = x := ⟨_, rfl⟩
    rw [hx]
    have HX := Lib.hid hx
    clear hx
    cases x
    case false =>
      go_wp2_with fail
      go_ret
      exact ⟨congrArg (fun z => Ending.returned (.bool z)) (by rw [← H2.out, HX.out]; rfl), BW4.out⟩
    have lg := rldFF wc (w.heap.size + 1) (by rw [RG4.out, Option.map_some, hzG])
    rw [RG4.out] at lg
    have lg' : (loadAgg 28 (.pointer (some ⟨w.heap.size + 1, 0, none⟩))).run Try.prog wc = .ok (.agg G) wc := lg
    clear lg
    go_wp2_with fail
    refine (HP.out _).mono ?_
    rintro e wz ⟨rfl, bz⟩
    have BZ := Lib.hid (BW4.out.trans (bz.mono BW4.out.size))
    clear bz lg'
    go_wp2_with fail
    go_ret
    exact ⟨congrArg (fun z => Ending.returned (.bool z)) (by rw [← H2.out, HX.out]; rfl), BZ.out⟩
  have q8 : (k == 8) = false := by simpa using k8
  by_cases k16 : k = 16
  case pos =>
    subst k16
    go_upto_block 0 with (fail)
    go_cut [4] (fun t wx => t = .bool (decide (n ≤ 4611686018427387903)) ∧ (W.setCell ⟨w.heap.size + 1, 1, none⟩ (.int .u64 0)) = wx)
    case first =>
      by_cases g : n ≤ 4611686018427387903
      · have q : decide ((n : Int) ≤ 4611686018427387903) = true := decide_eq_true (by omega)
        have G := Lib.hid g
        clear g
        go_wp2_with fail
        go_meet
        exact ⟨by simp [show n ≤ 4611686018427387903 from G.out], rfl⟩
      · have q : decide ((n : Int) ≤ 4611686018427387903) = false := decide_eq_false (by omega)
        have G := Lib.hid g
        clear g
        go_wp2_with fail
        go_meet
        exact ⟨by simp [show ¬ n ≤ 4611686018427387903 from G.out], rfl⟩
    obtain ⟨rfl, hw⟩ := hcut
    have hG : (F.setIfInBounds 1 (.int .u64 0)) = fvA 16 0 d (.slice a1 nr e1) i o fin (.slice a2 nd e2) (.slice a3 nc e3) (.slice a4 nt e4) := by rw [← HF.out]; rfl
    have RG2 : row? (W.setCell ⟨w.heap.size + 1, 1, none⟩ (.int .u64 0)) (w.heap.size + 1) = some (fvA 16 0 d (.slice a1 nr e1) i o fin (.slice a2 nd e2) (.slice a3 nc e3) (.slice a4 nt e4)) := hG ▸ (row?_setCell_eq RG.out (.int .u64 0))
    have BW2 : Below w.heap.size w (W.setCell ⟨w.heap.size + 1, 1, none⟩ (.int .u64 0)) := (BW.out.setCell (p := ⟨w.heap.size + 1, 1, none⟩) (by simp) (.int .u64 0))
    have hp := plain_any 16 0 d i o fin a1 a2 a3 a4 nr nd nc nt e1 e2 e3 e4
    have hzG : (fvA 16 0 d (.slice a1 nr e1) i o fin (.slice a2 nd e2) (.slice a3 nc e3) (.slice a4 nt e4)).size = 10 := rfl
    generalize hGG : fvA 16 0 d (.slice a1 nr e1) i o fin (.slice a2 nd e2) (.slice a3 nc e3) (.slice a4 nt e4) = G at *
    have h2 : (decide (n ≤ 4611686018427387903) && plainB 0 d nr i o fin nd nc nt) = r := HR.out
    have H2 := Lib.hid h2
    have HP := Lib.hid hp
    clear h2 hp hG hGG HF HR c0 c1 c2 c3 c4 c5 c6 c7 c8 c9 d0 d1 d2 d3 d4 d5 d6 d7 d8 d9 hfz
    rw [hw] at RG2 BW2
    have RG4 := Lib.hid RG2
    have BW4 := Lib.hid BW2
    clear hw RG2 BW2
    obtain ⟨x, hx⟩ : ∃ x, (decide (n ≤ 4611686018427387903)) = x := ⟨_, rfl⟩
    rw [hx]
    have HX := Lib.hid hx
    clear hx
    cases x
    case false =>
      go_wp2_with fail
      go_ret
      exact ⟨congrArg (fun z => Ending.returned (.bool z)) (by rw [← H2.out, HX.out]; rfl), BW4.out⟩
    have lg := rldFF wc (w.heap.size + 1) (by rw [RG4.out, Option.map_some, hzG])
    rw [RG4.out] at lg
    have lg' : (loadAgg 28 (.pointer (some ⟨w.heap.size + 1, 0, none⟩))).run Try.prog wc = .ok (.agg G) wc := lg
    clear lg
    go_wp2_with fail
    refine (HP.out _).mono ?_
    rintro e wz ⟨rfl, bz⟩
    have BZ := Lib.hid (BW4.out.trans (bz.mono BW4.out.size))
    clear bz lg'
    go_wp2_with fail
    go_ret
    exact ⟨congrArg (fun z => Ending.returned (.bool z)) (by rw [← H2.out, HX.out]; rfl), BZ.out⟩
  have q16 : (k == 16) = false := by simpa using k16
  by_cases k25 : k = 25
  case pos =>
    subst k25
    go_upto_block 0 with (fail)
    go_cut [4] (fun t wx => t = .bool (decide (n ≤ 4611686018427387903)) ∧ (W.setCell ⟨w.heap.size + 1, 1, none⟩ (.int .u64 0)) = wx)
    case first =>
      by_cases g : n ≤ 4611686018427387903
      · have q : decide ((n : Int) ≤ 4611686018427387903) = true := decide_eq_true (by omega)
        have G := Lib.hid g
        clear g
        go_wp2_with fail
        go_meet
        exact ⟨by simp [show n ≤ 4611686018427387903 from G.out], rfl⟩
      · have q : decide ((n : Int) ≤ 4611686018427387903) = false := decide_eq_false (by omega)
        have G := Lib.hid g
        clear g
        go_wp2_with fail
        go_meet
        exact ⟨by simp [show ¬ n ≤ 4611686018427387903 from G.out], rfl⟩
    obtain ⟨rfl, hw⟩ := hcut
    have hG : (F.setIfInBounds 1 (.int .u64 0)) = fvA 25 0 d (.slice a1 nr e1) i o fin (.slice a2 nd e2) (.slice a3 nc e3) (.slice a4 nt e4) := by rw [← HF.out]; rfl
    have RG2 : row? (W.setCell ⟨w.heap.size + 1, 1, none⟩ (.int .u64 0)) (w.heap.size + 1) = some (fvA 25 0 d (.slice a1 nr e1) i o fin (.slice a2 nd e2) (.slice a3 nc e3) (.slice a4 nt e4)) := hG ▸ (row?_setCell_eq RG.out (.int .u64 0))
    have BW2 : Below w.heap.size w (W.setCell ⟨w.heap.size + 1, 1, none⟩ (.int .u64 0)) := (BW.out.setCell (p := ⟨w.heap.size + 1, 1, none⟩) (by simp) (.int .u64 0))
    have hp := plain_any 25 0 d i o fin a1 a2 a3 a4 nr nd nc nt e1 e2 e3 e4
    have hzG : (fvA 25 0 d (.slice a1 nr e1) i o fin (.slice a2 nd e2) (.slice a3 nc e3) (.slice a4 nt e4)).size = 10 := rfl
    generalize hGG : fvA 25 0 d (.slice a1 nr e1) i o fin (.slice a2 nd e2) (.slice a3 nc e3) (.slice a4 nt e4) = G at *
    have h2 : (decide (n ≤ 4611686018427387903) && plainB 0 d nr i o fin nd nc nt) = r := HR.out
    have H2 := Lib.hid h2
    have HP := Lib.hid hp
    clear h2 hp hG hGG HF HR c0 c1 c2 c3 c4 c5 c6 c7 c8 c9 d0 d1 d2 d3 d4 d5 d6 d7 d8 d9 hfz
    rw [hw] at RG2 BW2
    have RG4 := Lib.hid RG2
    have BW4 := Lib.hid BW2
    clear hw RG2 BW2
    obtain ⟨x, hx⟩ : ∃ x, (decide (n ≤ 4611686018427387903)) = x := ⟨_, rfl⟩
    rw [hx]
    have HX := Lib.hid hx
    clear hx
    cases x
    case false =>
      go_wp2_with fail
      go_ret
      exact ⟨congrArg (fun z => Ending.returned (.bool z)) (by rw [← H2.out, HX.out]; rfl), BW4.out⟩
    have lg := rldFF wc (w.heap.size + 1) (by rw [RG4.out, Option.map_some, hzG])
    rw [RG4.out] at lg
    have lg' : (loadAgg 28 (.pointer (some ⟨w.heap.size + 1, 0, none⟩))).run Try.prog wc = .ok (.agg G) wc := lg
    clear lg
    go_wp2_with fail
    refine (HP.out _).mono ?_
    rintro e wz ⟨rfl, bz⟩
    have BZ := Lib.hid (BW4.out.trans (bz.mono BW4.out.size))
    clear bz lg'
    go_wp2_with fail
    go_ret
    exact ⟨congrArg (fun z => Ending.returned (.bool z)) (by rw [← H2.out, HX.out]; rfl), BZ.out⟩
  have q25 : (k == 25) = false := by simpa using k25
  by_cases k28 : k = 28
  case pos =>
    subst k28
    go_upto_block 0 with (fail)
    go_cut [4] (fun t wx => t = .bool (decide (n ≤ 4611686018427387903)) ∧ (W.setCell ⟨w.heap.size + 1, 1, none⟩ (.int .u64 0)) = wx)
    case first =>
      by_cases g : n ≤ 4611686018427387903
      · have q : decide ((n : Int) ≤ 4611686018427387903) = true := decide_eq_true (by omega)
        have G := Lib.hid g
        clear g
        go_wp2_with fail
        go_meet
        exact ⟨by simp [show n ≤ 4611686018427387903 from G.out], rfl⟩
      · have q : decide ((n : Int) ≤ 4611686018427387903) = false := decide_eq_false (by omega)
        have G := Lib.hid g
        clear g
        go_wp2_with fail
        go_meet
        exact ⟨by simp [show ¬ n ≤ 4611686018427387903 from G.out], rfl⟩
    obtain ⟨rfl, hw⟩ := hcut
    have hG : (F.setIfInBounds 1 (.int .u64 0)) = fvA 28 0 d (.slice a1 nr e1) i o fin (.slice a2 nd e2) (.slice a3 nc e3) (.slice a4 nt e4) := by rw [← HF.out]; rfl
    have RG2 : row? (W.setCell ⟨w.heap.size + 1, 1, none⟩ (.int .u64 0)) (w.heap.size + 1) = some (fvA 28 0 d (.slice a1 nr e1) i o fin (.slice a2 nd e2) (.slice a3 nc e3) (.slice a4 nt e4)) := hG ▸ (row?_setCell_eq RG.out (.int .u64 0))
    have BW2 : Below w.heap.size w (W.setCell ⟨w.heap.size + 1, 1, none⟩ (.int .u64 0)) := (BW.out.setCell (p := ⟨w.heap.size + 1, 1, none⟩) (by simp) (.int .u64 0))
    have hp := plain_any 28 0 d i o fin a1 a2 a3 a4 nr nd nc nt e1 e2 e3 e4
    have hzG : (fvA 28 0 d (.slice a1 nr e1) i o fin (.slice a2 nd e2) (.slice a3 nc e3) (.slice a4 nt e4)).size = 10 := rfl
    generalize hGG : fvA 28 0 d (.slice a1 nr e1) i o fin (.slice a2 nd e2) (.slice a3 nc e3) (.slice a4 nt e4) = G at *
    have h2 : (decide (n ≤ 4611686018427387903) && plainB 0 d nr i o fin nd nc nt) = r := HR.out
    have H2 := Lib.hid h2
    have HP := Lib.hid hp
    clear h2 hp hG hGG HF HR c0 c1 c2 c3 c4 c5 c6 c7 c8 c9 d0 d1 d2 d3 d4 d5 d6 d7 d8 d9 hfz
    rw [hw] at RG2 BW2
    have RG4 := Lib.hid RG2
    have BW4 := Lib.hid BW2
    clear hw RG2 BW2
    obtain ⟨x, hx⟩ : ∃ x, (decide (n ≤ 4611686018427387903)) = x := ⟨_, rfl⟩
    rw [hx]
    have HX := Lib.hid hx
    clear hx
    cases x
    case false =>
      go_wp2_with fail
      go_ret
      exact ⟨congrArg (fun z => Ending.returned (.bool z)) (by rw [← H2.out, HX.out]; rfl), BW4.out⟩
    have lg := rldFF wc (w.heap.size + 1) (by rw [RG4.out, Option.map_some, hzG])
    rw [RG4.out] at lg
    have lg' : (loadAgg 28 (.pointer (some ⟨w.heap.size + 1, 0, none⟩))).run Try.prog wc = .ok (.agg G) wc := lg
    clear lg
    go_wp2_with fail
    refine (HP.out _).mono ?_
    rintro e wz ⟨rfl, bz⟩
    have BZ := Lib.hid (BW4.out.trans (bz.mono BW4.out.size))
    clear bz lg'
    go_wp2_with fail
    go_ret
    exact ⟨congrArg (fun z => Ending.returned (.bool z)) (by rw [← H2.out, HX.out]; rfl), BZ.out⟩
  have q28 : (k == 28) = false := by simpa using k28
  by_cases k24 : k = 24
  case pos =>
    subst k24
    go_upto_block 0 with (fail)
    go_cut [4] (fun t wx => t = .bool (decide (n ≤ 4611686018427387903 ∧ nc = 8 ∧ nt = 16)) ∧ (((W.setCell ⟨w.heap.size + 1, 1, none⟩ (.int .u64 0)).setCell ⟨w.heap.size + 1, 8, none⟩ (.slice none 0 0)).setCell ⟨w.heap.size + 1, 9, none⟩ (.slice none 0 0)) = wx)
    case first =>
      by_cases g : n ≤ 4611686018427387903
      case neg =>
        have q : decide ((n : Int) ≤ 4611686018427387903) = false := decide_eq_false (by omega)
        have G := Lib.hid g
        clear g
        go_wp2_with fail
        go_meet
        exact ⟨by simp [show ¬ n ≤ 4611686018427387903 from G.out], rfl⟩
      have q : decide ((n : Int) ≤ 4611686018427387903) = true := decide_eq_true (by omega)
      by_cases g1 : nc = 8
      case neg =>
        have q1 : ((nc : Int) == 8) = false := by simp; omega
        have G1 := Lib.hid g1
        clear g g1
        go_wp2_with fail
        go_meet
        exact ⟨by simp [show ¬ nc = 8 from G1.out], rfl⟩
      have q1 : ((nc : Int) == 8) = true := by simp; omega
      have G := Lib.hid g
      have G1 := Lib.hid g1
      clear g g1
      by_cases g2 : nt = 16
      · have q2 : ((nt : Int) == 16) = true := by simp; omega
        have G2 := Lib.hid g2
        clear g2
        go_wp2_with fail
        go_meet
        exact ⟨by simp [show n ≤ 4611686018427387903 from G.out, show nc = 8 from G1.out, show nt = 16 from G2.out], rfl⟩
      · have q2 : ((nt : Int) == 16) = false := by simp; omega
        have G2 := Lib.hid g2
        clear g2
        go_wp2_with fail
        go_meet
        exact ⟨by simp [show ¬ nt = 16 from G2.out], rfl⟩
    obtain ⟨rfl, hw⟩ := hcut
    have hG : (((F.setIfInBounds 1 (.int .u64 0)).setIfInBounds 8 (.slice none 0 0)).setIfInBounds 9 (.slice none 0 0)) = fvA 24 0 d (.slice a1 nr e1) i o fin (.slice a2 nd e2) (.slice none 0 0) (.slice none 0 0) := by rw [← HF.out]; rfl
    have RG2 : row? (((W.setCell ⟨w.heap.size + 1, 1, none⟩ (.int .u64 0)).setCell ⟨w.heap.size + 1, 8, none⟩ (.slice none 0 0)).setCell ⟨w.heap.size + 1, 9, none⟩ (.slice none 0 0)) (w.heap.size + 1) = some (fvA 24 0 d (.slice a1 nr e1) i o fin (.slice a2 nd e2) (.slice none 0 0) (.slice none 0 0)) := hG ▸ (row?_setCell_eq (row?_setCell_eq (row?_setCell_eq RG.out (.int .u64 0)) (.slice none 0 0)) (.slice none 0 0))
    have BW2 : Below w.heap.size w (((W.setCell ⟨w.heap.size + 1, 1, none⟩ (.int .u64 0)).setCell ⟨w.heap.size + 1, 8, none⟩ (.slice none 0 0)).setCell ⟨w.heap.size + 1, 9, none⟩ (.slice none 0 0)) := (((BW.out.setCell (p := ⟨w.heap.size + 1, 1, none⟩) (by simp) (.int .u64 0)).setCell (p := ⟨w.heap.size + 1, 8, none⟩) (by simp) (.slice none 0 0)).setCell (p := ⟨w.heap.size + 1, 9, none⟩) (by simp) (.slice none 0 0))
    have hp := plain_any 24 0 d i o fin a1 a2 none none nr nd 0 0 e1 e2 0 0
    have hzG : (fvA 24 0 d (.slice a1 nr e1) i o fin (.slice a2 nd e2) (.slice none 0 0) (.slice none 0 0)).size = 10 := rfl
    generalize hGG : fvA 24 0 d (.slice a1 nr e1) i o fin (.slice a2 nd e2) (.slice none 0 0) (.slice none 0 0) = G at *
    have h2 : (decide (n ≤ 4611686018427387903 ∧ nc = 8 ∧ nt = 16) && plainB 0 d nr i o fin nd 0 0) = r := HR.out
    have H2 := Lib.hid h2
    have HP := Lib.hid hp
    clear h2 hp hG hGG HF HR c0 c1 c2 c3 c4 c5 c6 c7 c8 c9 d0 d1 d2 d3 d4 d5 d6 d7 d8 d9 hfz
    rw [hw] at RG2 BW2
    have RG4 := Lib.hid RG2
    have BW4 := Lib.hid BW2
    clear hw RG2 BW2
    obtain ⟨x, hx⟩ : ∃ x, (decide (n ≤ 4611686018427387903 ∧ nc = 8 ∧ nt = 16)) = x := ⟨_, rfl⟩
    rw [hx]
    have HX := Lib.hid hx
    clear hx
    cases x
    case false =>
      go_wp2_with fail
      go_ret
      exact ⟨congrArg (fun z => Ending.returned (.bool z)) (by rw [← H2.out, HX.out]; rfl), BW4.out⟩
    have lg := rldFF wc (w.heap.size + 1) (by rw [RG4.out, Option.map_some, hzG])
    rw [RG4.out] at lg
    have lg' : (loadAgg 28 (.pointer (some ⟨w.heap.size + 1, 0, none⟩))).run Try.prog wc = .ok (.agg G) wc := lg
    clear lg
    go_wp2_with fail
    refine (HP.out _).mono ?_
    rintro e wz ⟨rfl, bz⟩
    have BZ := Lib.hid (BW4.out.trans (bz.mono BW4.out.size))
    clear bz lg'
    go_wp2_with fail
    go_ret
    exact ⟨congrArg (fun z => Ending.returned (.bool z)) (by rw [← H2.out, HX.out]; rfl), BZ.out⟩
  have q24 : (k == 24) = false := by simpa using k24
  by_cases k26 : k = 26
  case pos =>
    subst k26
    go_upto_block 0 with (fail)
    go_cut [4] (fun t wx => t = .bool (decide (nd = 8)) ∧ (W.setCell ⟨w.heap.size + 1, 7, none⟩ (.slice none 0 0)) = wx)
    case first =>
      by_cases g : nd = 8
      · have q : ((nd : Int) == 8) = true := by simp; omega
        have G := Lib.hid g
        clear g
        go_wp2_with fail
        go_meet
        exact ⟨by simp [show nd = 8 from G.out], rfl⟩
      · have q : ((nd : Int) == 8) = false := by simp; omega
        have G := Lib.hid g
        clear g
        go_wp2_with fail
        go_meet
        exact ⟨by simp [show ¬ nd = 8 from G.out], rfl⟩
    obtain ⟨rfl, hw⟩ := hcut
    have hG : (F.setIfInBounds 7 (.slice none 0 0)) = fvA 26 n d (.slice a1 nr e1) i o fin (.slice none 0 0) (.slice a3 nc e3) (.slice a4 nt e4) := by rw [← HF.out]; rfl
    have RG2 : row? (W.setCell ⟨w.heap.size + 1, 7, none⟩ (.slice none 0 0)) (w.heap.size + 1) = some (fvA 26 n d (.slice a1 nr e1) i o fin (.slice none 0 0) (.slice a3 nc e3) (.slice a4 nt e4)) := hG ▸ (row?_setCell_eq RG.out (.slice none 0 0))
    have BW2 : Below w.heap.size w (W.setCell ⟨w.heap.size + 1, 7, none⟩ (.slice none 0 0)) := (BW.out.setCell (p := ⟨w.heap.size + 1, 7, none⟩) (by simp) (.slice none 0 0))
    have hp := plain_any 26 n d i o fin a1 none a3 a4 nr 0 nc nt e1 0 e3 e4
    have hzG : (fvA 26 n d (.slice a1 nr e1) i o fin (.slice none 0 0) (.slice a3 nc e3) (.slice a4 nt e4)).size = 10 := rfl
    generalize hGG : fvA 26 n d (.slice a1 nr e1) i o fin (.slice none 0 0) (.slice a3 nc e3) (.slice a4 nt e4) = G at *
    have h2 : (decide (nd = 8) && plainB n d nr i o fin 0 nc nt) = r := HR.out
    have H2 := Lib.hid h2
    have HP := Lib.hid hp
    clear h2 hp hG hGG HF HR c0 c1 c2 c3 c4 c5 c6 c7 c8 c9 d0 d1 d2 d3 d4 d5 d6 d7 d8 d9 hfz
    rw [hw] at RG2 BW2
    have RG4 := Lib.hid RG2
    have BW4 := Lib.hid BW2
    clear hw RG2 BW2
    obtain ⟨x, hx⟩ : ∃ x, (decide (nd = 8)) = x := ⟨_, rfl⟩
    rw [hx]
    have HX := Lib.hid hx
    clear hx
    cases x
    case false =>
      go_wp2_with fail
      go_ret
      exact ⟨congrArg (fun z => Ending.returned (.bool z)) (by rw [← H2.out, HX.out]; rfl), BW4.out⟩
    have lg := rldFF wc (w.heap.size + 1) (by rw [RG4.out, Option.map_some, hzG])
    rw [RG4.out] at lg
    have lg' : (loadAgg 28 (.pointer (some ⟨w.heap.size + 1, 0, none⟩))).run Try.prog wc = .ok (.agg G) wc := lg
    clear lg
    go_wp2_with fail
    refine (HP.out _).mono ?_
    rintro e wz ⟨rfl, bz⟩
    have BZ := Lib.hid (BW4.out.trans (bz.mono BW4.out.size))
    clear bz lg'
    go_wp2_with fail
    go_ret
    exact ⟨congrArg (fun z => Ending.returned (.bool z)) (by rw [← H2.out, HX.out]; rfl), BZ.out⟩
  have q26 : (k == 26) = false := by simpa using k26
  by_cases k27 : k = 27
  case pos =>
    subst k27
    go_upto_block 0 with (fail)
    go_cut [4] (fun t wx => t = .bool (decide (nd = 8)) ∧ (W.setCell ⟨w.heap.size + 1, 7, none⟩ (.slice none 0 0)) = wx)
    case first =>
      by_cases g : nd = 8
      · have q : ((nd : Int) == 8) = true := by simp; omega
        have G := Lib.hid g
        clear g
        go_wp2_with fail
        go_meet
        exact ⟨by simp [show nd = 8 from G.out], rfl⟩
      · have q : ((nd : Int) == 8) = false := by simp; omega
        have G := Lib.hid g
        clear g
        go_wp2_with fail
        go_meet
        exact ⟨by simp [show ¬ nd = 8 from G.out], rfl⟩
    obtain ⟨rfl, hw⟩ := hcut
    have hG : (F.setIfInBounds 7 (.slice none 0 0)) = fvA 27 n d (.slice a1 nr e1) i o fin (.slice none 0 0) (.slice a3 nc e3) (.slice a4 nt e4) := by rw [← HF.out]; rfl
    have RG2 : row? (W.setCell ⟨w.heap.size + 1, 7, none⟩ (.slice none 0 0)) (w.heap.size + 1) = some (fvA 27 n d (.slice a1 nr e1) i o fin (.slice none 0 0) (.slice a3 nc e3) (.slice a4 nt e4)) := hG ▸ (row?_setCell_eq RG.out (.slice none 0 0))
    have BW2 : Below w.heap.size w (W.setCell ⟨w.heap.size + 1, 7, none⟩ (.slice none 0 0)) := (BW.out.setCell (p := ⟨w.heap.size + 1, 7, none⟩) (by simp) (.slice none 0 0))
    have hp := plain_any 27 n d i o fin a1 none a3 a4 nr 0 nc nt e1 0 e3 e4
    have hzG : (fvA 27 n d (.slice a1 nr e1) i o fin (.slice none 0 0) (.slice a3 nc e3) (.slice a4 nt e4)).size = 10 := rfl
    generalize hGG : fvA 27 n d (.slice a1 nr e1) i o fin (.slice none 0 0) (.slice a3 nc e3) (.slice a4 nt e4) = G at *
    have h2 : (decide (nd = 8) && plainB n d nr i o fin 0 nc nt) = r := HR.out
    have H2 := Lib.hid h2
    have HP := Lib.hid hp
    clear h2 hp hG hGG HF HR c0 c1 c2 c3 c4 c5 c6 c7 c8 c9 d0 d1 d2 d3 d4 d5 d6 d7 d8 d9 hfz
    rw [hw] at RG2 BW2
    have RG4 := Lib.hid RG2
    have BW4 := Lib.hid BW2
    clear hw RG2 BW2
    obtain ⟨x, hx⟩ : ∃ x, (decide (nd = 8)) = x := ⟨_, rfl⟩
    rw [hx]
    have HX := Lib.hid hx
    clear hx
    cases x
    case false =>
      go_wp2_with fail
      go_ret
      exact ⟨congrArg (fun z => Ending.returned (.bool z)) (by rw [← H2.out, HX.out]; rfl), BW4.out⟩
    have lg := rldFF wc (w.heap.size + 1) (by rw [RG4.out, Option.map_some, hzG])
    rw [RG4.out] at lg
    have lg' : (loadAgg 28 (.pointer (some ⟨w.heap.size + 1, 0, none⟩))).run Try.prog wc = .ok (.agg G) wc := lg
    clear lg
    go_wp2_with fail
    refine (HP.out _).mono ?_
    rintro e wz ⟨rfl, bz⟩
    have BZ := Lib.hid (BW4.out.trans (bz.mono BW4.out.size))
    clear bz lg'
    go_wp2_with fail
    go_ret
    exact ⟨congrArg (fun z => Ending.returned (.bool z)) (by rw [← H2.out, HX.out]; rfl), BZ.out⟩
  have q27 : (k == 27) = false := by simpa using k27
  have h2 := HR.out
  unfold mayB at h2
  rw [if_neg (by omega), if_neg (by omega), if_neg (by omega), if_neg (by omega), if_neg (by omega), if_neg (by omega), if_neg (by omega), if_neg (by omega)] at h2
  subst h2
  go_wp2_with fail
  go_ret
  exact ⟨rfl, BW.out⟩
end Go.Proofs.Ytipniobgijdlkaa
