/- FrmMay; FrmP1. -/
import Derived.Test.YthjbmggpleliaaaGreatDoorMhb39
import Derived.Test.YthjbmggpleliaaaGreatDoorMhb21
import Derived.Deep.DeepCutAuto
import Derived.Test.YthjbmggpleliaaaGreatDoorMhb36
import Derived.Test.YthjbmggpleliaaaGreatDoorMhb4
section
namespace Go.Proofs.YthjbmggpleliaaaGreatDoor
open Go.RowKit Go.Rw Frm Hdr
attribute [local go_sem ↓] ldFF stFF alFF ldFS stFS alFS
attribute [local go_sem] rldFF rstFF ralFF rldFS rstFSb ralFS setRow_alloc_at setRow_alloc_past setRow_drew
set_option maxRecDepth 20000 in
set_option maxHeartbeats 2000000 in
theorem flong_any (k : Int) (n d i o : Nat) (fin : Bool) (a1 a2 a3 a4 : Option Addr) (nr nd nc nt e1 e2 e3 e4 : Nat) (w : World) :
  Calls Tryz.prog 160 #[.agg (fvA k n d (.slice a1 nr e1) i o fin (.slice a2 nd e2) (.slice a3 nc e3) (.slice a4 nt e4))] w fun e w' => e = .returned (.bool (dlB k nd o)) ∧ Below w.heap.size w w' := by
 have B1 := Lib.hid (((Below.refl w.heap.size w).alloc (Nat.le_refl _) (.cells (fvA k n d (.slice a1 nr e1) i o fin (.slice a2 nd e2) (.slice a3 nc e3) (.slice a4 nt e4)) 159)))
 obtain ⟨c0, c1, c2, c3, c4, c5, c6, c7, c8, c9⟩ := fv_cells (row?_alloc_at w (fvA k n d (.slice a1 nr e1) i o fin (.slice a2 nd e2) (.slice a3 nc e3) (.slice a4 nt e4)) 159 w.heap.size rfl)
 generalize fvA k n d (.slice a1 nr e1) i o fin (.slice a2 nd e2) (.slice a3 nc e3) (.slice a4 nt e4) = F at *
 clear c1 c2 c3 c4 c6 c8 c9
 obtain ⟨r, hr⟩ : ∃ r, dlB k nd o = r := ⟨_, rfl⟩
 rw [hr]
 unfold dlB at hr
 have HR := Lib.hid hr
 clear hr
 go_enter Tryz.func160, Tryz.ntmps160
 by_cases h26 : k = 26
 case pos =>
  subst h26
  by_cases g : nd = 8
  ·have q : ((nd : Int) == 8) = true := by simpa using (by omega : (nd : Int) = 8)
   have G := Lib.hid g
   clear g
   go_wp2_with fail
   go_ret
   exact ⟨congrArg (fun z => Ending.returned (.bool z)) (by rw [← HR.out, decide_eq_true G.out]; rfl), B1.out⟩
  ·have q : ((nd : Int) == 8) = false := by simpa using (by omega : ¬ (nd : Int) = 8)
   go_wp2_with fail
   go_ret
   exact ⟨congrArg (fun z => Ending.returned (.bool z)) (by rw [← HR.out, decide_eq_false g]; rfl), B1.out⟩
 by_cases h27 : k = 27
 case pos =>
  subst h27
  by_cases g : nd = 8
  ·have q : ((nd : Int) == 8) = true := by simpa using (by omega : (nd : Int) = 8)
   have G := Lib.hid g
   clear g
   go_wp2_with fail
   go_ret
   exact ⟨congrArg (fun z => Ending.returned (.bool z)) (by rw [← HR.out, decide_eq_true G.out]; rfl), B1.out⟩
  ·have q : ((nd : Int) == 8) = false := by simpa using (by omega : ¬ (nd : Int) = 8)
   go_wp2_with fail
   go_ret
   exact ⟨congrArg (fun z => Ending.returned (.bool z)) (by rw [← HR.out, decide_eq_false g]; rfl), B1.out⟩
 by_cases h6 : k = 6
 case pos =>
  subst h6
  by_cases g : nd ≤ 16383
  ·have q : decide ((nd : Int) ≤ 16383) = true := decide_eq_true (by omega)
   have hw : IntKind.u64.wrap ((nd : Nat) : Int) = (nd : Nat) := by simp only [IntKind.wrap_u64]; omega
   have hw2 : IntKind.u64.wrap (4611686018427387903 - ((nd : Nat) : Int)) = 4611686018427387903 - (nd : Nat) := by simp only [IntKind.wrap_u64]; omega
   by_cases g2 : o + nd ≤ 4611686018427387903
   ·have q2 : decide ((o : Int) ≤ 4611686018427387903 - (nd : Nat)) = true := decide_eq_true (by omega)
    go_wp2_with fail
    go_ret
    exact ⟨congrArg (fun z => Ending.returned (.bool z)) (by rw [← HR.out, decide_eq_true g, decide_eq_true g2]; rfl), B1.out⟩
   ·have q2 : decide ((o : Int) ≤ 4611686018427387903 - (nd : Nat)) = false := decide_eq_false (by omega)
    go_wp2_with fail
    go_ret
    exact ⟨congrArg (fun z => Ending.returned (.bool z)) (by rw [← HR.out, decide_eq_true g, decide_eq_false g2]; rfl), B1.out⟩
  ·have q : decide ((nd : Int) ≤ 16383) = false := decide_eq_false (by omega)
   go_wp2_with fail
   go_ret
   exact ⟨congrArg (fun z => Ending.returned (.bool z)) (by rw [← HR.out, decide_eq_false g]; rfl), B1.out⟩
 by_cases h8 : k = 8
 case pos =>
  subst h8
  by_cases g : nd ≤ 16383
  ·have q : decide ((nd : Int) ≤ 16383) = true := decide_eq_true (by omega)
   have hw : IntKind.u64.wrap ((nd : Nat) : Int) = (nd : Nat) := by simp only [IntKind.wrap_u64]; omega
   have hw2 : IntKind.u64.wrap (4611686018427387903 - ((nd : Nat) : Int)) = 4611686018427387903 - (nd : Nat) := by simp only [IntKind.wrap_u64]; omega
   by_cases g2 : o + nd ≤ 4611686018427387903
   ·have q2 : decide ((o : Int) ≤ 4611686018427387903 - (nd : Nat)) = true := decide_eq_true (by omega)
    go_wp2_with fail
    go_ret
    exact ⟨congrArg (fun z => Ending.returned (.bool z)) (by rw [← HR.out, decide_eq_true g, decide_eq_true g2]; rfl), B1.out⟩
   ·have q2 : decide ((o : Int) ≤ 4611686018427387903 - (nd : Nat)) = false := decide_eq_false (by omega)
    go_wp2_with fail
    go_ret
    exact ⟨congrArg (fun z => Ending.returned (.bool z)) (by rw [← HR.out, decide_eq_true g, decide_eq_false g2]; rfl), B1.out⟩
  ·have q : decide ((nd : Int) ≤ 16383) = false := decide_eq_false (by omega)
   go_wp2_with fail
   go_ret
   exact ⟨congrArg (fun z => Ending.returned (.bool z)) (by rw [← HR.out, decide_eq_false g]; rfl), B1.out⟩
 have q26 : (k == 26) = false := by simpa using h26
 have q27 : (k == 27) = false := by simpa using h27
 have q6 : (k == 6) = false := by simpa using h6
 have q8 : (k == 8) = false := by simpa using h8
 have hF := HR.out
 rw [if_neg (by omega), if_neg (by omega)] at hF
 subst hF
 go_wp2_with fail
 go_ret
 exact ⟨rfl, B1.out⟩
set_option maxRecDepth 100000 in
set_option maxHeartbeats 4000000 in
theorem fmay_any (k : Int) (n d i o : Nat) (fin : Bool) (a1 a2 a3 a4 : Option Addr) (nr nd nc nt e1 e2 e3 e4 : Nat) (rs : List (Nat × Nat)) (hnc : nc ≤ 1000000) (hnt : nt ≤ 1000000) (w : World) (hs : Sr w (.slice a1 nr e1) rs) :
  Calls Tryz.prog 134 #[.agg (fvA k n d (.slice a1 nr e1) i o fin (.slice a2 nd e2) (.slice a3 nc e3) (.slice a4 nt e4))] w fun e w' => e = .returned (.bool (mayG k n d nr (rsOk rs) i o fin nd nc nt)) ∧ Below w.heap.size w w' := by
 have hl := fun W => flong_any k n d i o fin a1 a2 a3 a4 nr nd nc nt e1 e2 e3 e4 W
 have hfl := fun W hW => falls_any rs (.slice a1 nr e1) W hW
 have B1 := Lib.hid (((Below.refl w.heap.size w).alloc (Nat.le_refl _) (.cells (fvA k n d (.slice a1 nr e1) i o fin (.slice a2 nd e2) (.slice a3 nc e3) (.slice a4 nt e4)) 159)))
 have fc := fun (W : World) (b : Nat) (h : row? W b = some (fvA k n d (.slice a1 nr e1) i o fin (.slice a2 nd e2) (.slice a3 nc e3) (.slice a4 nt e4))) => fv_cells h
 have hz : (fvA k n d (.slice a1 nr e1) i o fin (.slice a2 nd e2) (.slice a3 nc e3) (.slice a4 nt e4)).size = 10 := rfl
 have S1 := Lib.hid (hs.below ((Below.refl w.heap.size w).alloc (Nat.le_refl _) (.cells (fvA k n d (.slice a1 nr e1) i o fin (.slice a2 nd e2) (.slice a3 nc e3) (.slice a4 nt e4)) 159)))
 have R1 := Lib.hid (row?_alloc_at w (fvA k n d (.slice a1 nr e1) i o fin (.slice a2 nd e2) (.slice a3 nc e3) (.slice a4 nt e4)) 159 w.heap.size rfl)
 have c0 := (fc _ _ R1.out).1
 generalize fvA k n d (.slice a1 nr e1) i o fin (.slice a2 nd e2) (.slice a3 nc e3) (.slice a4 nt e4) = F at *
 generalize rsOk rs = ok at *
 obtain ⟨LB, hLB⟩ : ∃ x, dlB k nd o = x := ⟨_, rfl⟩
 rw [hLB] at hl
 have HL := Lib.hid hl
 have HFL := Lib.hid hfl
 have FC := Lib.hid fc
 obtain ⟨r, hr⟩ : ∃ r, mayG k n d nr ok i o fin nd nc nt = r := ⟨_, rfl⟩
 rw [hr]
 unfold mayG no1 no2 no3 no4 no5 at hr
 rw [hLB] at hr
 have hh := has_any k
 rw [hasP_eq] at hh
 generalize pN k = b0 at *
 generalize pAck k = b1 at *
 generalize pId k = b2 at *
 generalize pOff k = b3 at *
 generalize pData k = b5 at *
 generalize pCid k = b6 at *
 generalize pOk k = b7 at *
 obtain ⟨PP, hPP⟩ : ∃ PP : Array Value, #[.bool b0, .bool b1, .bool b2, .bool b3, .bool b2, .bool b5, .bool b6] = PP := ⟨_, rfl⟩
 have pz : PP.size = 7 := by rw [← hPP]; rfl
 have po : allOne PP = true := by rw [← hPP]; simp [allOne, Value.oneCell']
 have p0 : PP[0]? = some (.bool b0) := by rw [← hPP]; rfl
 have p1 : PP[1]? = some (.bool b1) := by rw [← hPP]; rfl
 have p2 : PP[2]? = some (.bool b2) := by rw [← hPP]; rfl
 have p3 : PP[3]? = some (.bool b3) := by rw [← hPP]; rfl
 have p4 : PP[4]? = some (.bool b2) := by rw [← hPP]; rfl
 have p5 : PP[5]? = some (.bool b5) := by rw [← hPP]; rfl
 have p6 : PP[6]? = some (.bool b6) := by rw [← hPP]; rfl
 rw [hPP] at hh
 have HH := Lib.hid hh
 have HR := Lib.hid hr
 have P0 := Lib.hid p0
 have P1 := Lib.hid p1
 have P2 := Lib.hid p2
 have P3 := Lib.hid p3
 have P4 := Lib.hid p4
 have P5 := Lib.hid p5
 have P6 := Lib.hid p6
 clear hl hfl fc hr hh hPP hLB hs p0 p1 p2 p3 p4 p5 p6
 have rst := fun (W : World) (b : Nat) (h : (row? W b).map (·.size) = some 7) => rstFS W b PP h pz po
 go_enter Tryz.func134, Tryz.ntmps134
 go_wp2_with fail
 refine (HH.out _).mono ?_
 rintro e w1 ⟨rfl, hb1⟩
 have R2 := Lib.hid (show row? w1 w.heap.size = some F by rw [row?_below hb1 (by simp)]; exact R1.out)
 have B2 := Lib.hid (B1.out.trans (hb1.mono (by simp)))
 have S2 := Lib.hid (S1.out.below hb1)
 have hsz := row?_lt R2.out
 clear hb1 c0
 go_wp2_with (with_reducible refine Rw.hold_ops 12 ?_)
 refine Rw.Held.mk ?_
 have RF := Lib.hid (show row? (w1.alloc (.cells PP 266)) w.heap.size = some F by rw [row?_alloc_past _ _ _ hsz]; exact R2.out)
 have RP := Lib.hid (show row? (w1.alloc (.cells PP 266)) w1.heap.size = some PP from row?_alloc_at _ _ _ _ rfl)
 have BW := Lib.hid (B2.out.alloc B2.out.size (.cells PP 266))
 have SW := Lib.hid (S2.out.below ((Below.refl w1.heap.size w1).alloc (Nat.le_refl _) (.cells PP 266)))
 generalize (w1.alloc (.cells PP 266)) = W at RF RP BW SW ⊢
 obtain ⟨c0, c1, c2, c3, c4, c5, c6, c7, c8, c9⟩ := FC.out _ _ RF.out
 have p0 := (row?_cell RP.out 0).trans P0.out
 have p1 := (row?_cell RP.out 1).trans P1.out
 have p2 := (row?_cell RP.out 2).trans P2.out
 have p3 := (row?_cell RP.out 3).trans P3.out
 have p4 := (row?_cell RP.out 4).trans P4.out
 have p5 := (row?_cell RP.out 5).trans P5.out
 have p6 := (row?_cell RP.out 6).trans P6.out
 clear R1 R2 S1 S2 B1 B2 rst HH
 cases b7
 case false =>
  go_wp2_with fail
  go_ret
  exact ⟨congrArg (fun z => Ending.returned (.bool z)) (by rw [← HR.out]; simp), BW.out⟩
 go_upto_region 3 with (fail)
 go_cut [11] (fun t wx => t = .bool (decide (n ≠ 0) && !b0) ∧ W = wx)
 case first =>
  by_cases g : n = 0
  ·have q : ((n : Int) != 0) = false := by simp; omega
   have G := Lib.hid g
   clear g
   go_wp2_with fail
   go_meet
   exact ⟨by simp [G.out], rfl⟩
  ·have q : ((n : Int) != 0) = true := by simp; omega
   have G := Lib.hid g
   clear g
   cases b0
   all_goals
    go_wp2_with fail
    go_meet
    exact ⟨by simp [G.out], rfl⟩
 obtain ⟨rfl, rfl⟩ := hcut
 obtain ⟨x, hx⟩ : ∃ x, (decide (n ≠ 0) && !b0) = x := ⟨_, rfl⟩
 rw [hx]
 have X3 := Lib.hid hx
 clear hx
 cases x
 case true =>
  go_wp2_with fail
  go_ret
  exact ⟨congrArg (fun z => Ending.returned (.bool z)) (by rw [← HR.out, X3.out]; simp), BW.out⟩
 go_upto_region 4 with (fail)
 go_cut [11] (fun t wx => t = .bool (decide (i ≠ 0) && !b2) ∧ W = wx)
 case first =>
  by_cases g : i = 0
  ·have q : ((i : Int) != 0) = false := by simp; omega
   have G := Lib.hid g
   clear g
   go_wp2_with fail
   go_meet
   exact ⟨by simp [G.out], rfl⟩
  ·have q : ((i : Int) != 0) = true := by simp; omega
   have G := Lib.hid g
   clear g
   cases b2
   all_goals
    go_wp2_with fail
    go_meet
    exact ⟨by simp [G.out], rfl⟩
 obtain ⟨rfl, rfl⟩ := hcut
 obtain ⟨x, hx⟩ : ∃ x, (decide (i ≠ 0) && !b2) = x := ⟨_, rfl⟩
 rw [hx]
 have X4 := Lib.hid hx
 clear hx
 cases x
 case true =>
  go_wp2_with fail
  go_ret
  exact ⟨congrArg (fun z => Ending.returned (.bool z)) (by rw [← HR.out, X4.out]; simp), BW.out⟩
 go_upto_region 5 with (fail)
 go_cut [11] (fun t wx => t = .bool (decide (o ≠ 0) && !b3) ∧ W = wx)
 case first =>
  by_cases g : o = 0
  ·have q : ((o : Int) != 0) = false := by simp; omega
   have G := Lib.hid g
   clear g
   go_wp2_with fail
   go_meet
   exact ⟨by simp [G.out], rfl⟩
  ·have q : ((o : Int) != 0) = true := by simp; omega
   have G := Lib.hid g
   clear g
   cases b3
   all_goals
    go_wp2_with fail
    go_meet
    exact ⟨by simp [G.out], rfl⟩
 obtain ⟨rfl, rfl⟩ := hcut
 obtain ⟨x, hx⟩ : ∃ x, (decide (o ≠ 0) && !b3) = x := ⟨_, rfl⟩
 rw [hx]
 have X5 := Lib.hid hx
 clear hx
 cases x
 case true =>
  go_wp2_with fail
  go_ret
  exact ⟨congrArg (fun z => Ending.returned (.bool z)) (by rw [← HR.out, X5.out]; simp), BW.out⟩
 go_upto_region 6 with (fail)
 go_cut [11] (fun t wx => t = .bool (fin && !b2) ∧ W = wx)
 case first =>
  cases fin
  all_goals cases b2
  all_goals
   go_wp2_with fail
   go_meet
   exact ⟨by simp, rfl⟩
 obtain ⟨rfl, rfl⟩ := hcut
 obtain ⟨x, hx⟩ : ∃ x, (fin && !b2) = x := ⟨_, rfl⟩
 rw [hx]
 have X6 := Lib.hid hx
 clear hx
 cases x
 case true =>
  go_wp2_with fail
  go_ret
  exact ⟨congrArg (fun z => Ending.returned (.bool z)) (by rw [← HR.out, X6.out]; simp), BW.out⟩
 go_upto_region 7 with (fail)
 go_cut [11] (fun t wx => t = .bool (decide (0 < nd) && !b5) ∧ W = wx)
 case first =>
  by_cases g : 0 < nd
  ·have q : decide (0 < nd) = true := decide_eq_true g
   have G := Lib.hid g
   clear g
   cases b5
   all_goals
    go_wp2_with fail
    go_meet
    exact ⟨by simp [G.out], rfl⟩
  ·have q : decide (0 < nd) = false := decide_eq_false g
   have G := Lib.hid g
   clear g
   go_wp2_with fail
   go_meet
   exact ⟨by simp [G.out], rfl⟩
 obtain ⟨rfl, rfl⟩ := hcut
 obtain ⟨x, hx⟩ : ∃ x, (decide (0 < nd) && !b5) = x := ⟨_, rfl⟩
 rw [hx]
 have X7 := Lib.hid hx
 clear hx
 cases x
 case true =>
  go_wp2_with fail
  go_ret
  exact ⟨congrArg (fun z => Ending.returned (.bool z)) (by rw [← HR.out, X7.out]; simp), BW.out⟩
 go_upto_region 9 with (fail)
 go_cut [54] (fun t wx => t = .bool (!b1 && (decide (d ≠ 0) || decide (0 < nr))) ∧ W = wx)
 case first =>
  cases b1
  case true =>
   go_wp2_with fail
   go_meet
   exact ⟨by simp, rfl⟩
  by_cases g : d = 0
  ·have q : ((d : Int) != 0) = false := by simp; omega
   have G := Lib.hid g
   clear g
   by_cases g2 : 0 < nr
   ·have q2 : decide (0 < nr) = true := decide_eq_true g2
    have G2 := Lib.hid g2
    clear g2
    go_wp2_with fail
    go_meet
    exact ⟨by simp [G.out, G2.out], rfl⟩
   ·have q2 : decide (0 < nr) = false := decide_eq_false g2
    have G2 := Lib.hid g2
    clear g2
    go_wp2_with fail
    go_meet
    exact ⟨by simp [G.out, G2.out], rfl⟩
  ·have q : ((d : Int) != 0) = true := by simp; omega
   have G := Lib.hid g
   clear g
   go_wp2_with fail
   go_meet
   exact ⟨by simp [G.out], rfl⟩
 obtain ⟨rfl, rfl⟩ := hcut
 obtain ⟨x, hx⟩ : ∃ x, (!b1 && (decide (d ≠ 0) || decide (0 < nr))) = x := ⟨_, rfl⟩
 rw [hx]
 have X9 := Lib.hid hx
 clear hx
 cases x
 case true =>
  go_wp2_with fail
  go_ret
  exact ⟨congrArg (fun z => Ending.returned (.bool z)) (by rw [← HR.out, X9.out]; simp), BW.out⟩
 go_upto_region 10 with (fail)
 go_cut [54] (fun t wx => t = .bool (!b6 && decide (0 < nc + nt)) ∧ W = wx)
 case first =>
  cases b6
  case true =>
   go_wp2_with fail
   go_meet
   exact ⟨by simp, rfl⟩
  have hw : wrap64 ((nc : Int) + (nt : Int)) = ((nc + nt : Nat) : Int) := by unfold wrap64; omega
  by_cases g : 0 < nc + nt
  ·have q : decide ((0 : Int) < (nc : Int) + (nt : Int)) = true := decide_eq_true (by omega)
   have G := Lib.hid g
   clear g
   go_wp2_with fail
   go_meet
   exact ⟨by simp [G.out], rfl⟩
  ·have q : decide ((0 : Int) < (nc : Int) + (nt : Int)) = false := decide_eq_false (by omega)
   have G := Lib.hid g
   clear g
   go_wp2_with fail
   go_meet
   exact ⟨by simp [G.out], rfl⟩
 obtain ⟨rfl, rfl⟩ := hcut
 obtain ⟨x, hx⟩ : ∃ x, (!b6 && decide (0 < nc + nt)) = x := ⟨_, rfl⟩
 rw [hx]
 have X10 := Lib.hid hx
 clear hx
 cases x
 case true =>
  go_wp2_with fail
  go_ret
  exact ⟨congrArg (fun z => Ending.returned (.bool z)) (by rw [← HR.out, X10.out]; simp), BW.out⟩
 by_cases g : 4611686018427387903 < n
 case pos =>
  have q : decide ((4611686018427387903 : Int) < (n : Nat)) = true := decide_eq_true (by omega)
  have G := Lib.hid g
  clear g
  go_wp2_with fail
  go_ret
  exact ⟨congrArg (fun z => Ending.returned (.bool z)) (by rw [← HR.out, decide_eq_true G.out]; simp), BW.out⟩
 have qn : decide ((4611686018427387903 : Int) < (n : Nat)) = false := decide_eq_false (by omega)
 have Gn_ := Lib.hid g
 clear g
 by_cases g : 4611686018427387903 < i
 case pos =>
  have q : decide ((4611686018427387903 : Int) < (i : Nat)) = true := decide_eq_true (by omega)
  have G := Lib.hid g
  clear g
  go_wp2_with fail
  go_ret
  exact ⟨congrArg (fun z => Ending.returned (.bool z)) (by rw [← HR.out, decide_eq_true G.out]; simp), BW.out⟩
 have qi : decide ((4611686018427387903 : Int) < (i : Nat)) = false := decide_eq_false (by omega)
 have Gi_ := Lib.hid g
 clear g
 by_cases g : 4611686018427387903 < o
 case pos =>
  have q : decide ((4611686018427387903 : Int) < (o : Nat)) = true := decide_eq_true (by omega)
  have G := Lib.hid g
  clear g
  go_wp2_with fail
  go_ret
  exact ⟨congrArg (fun z => Ending.returned (.bool z)) (by rw [← HR.out, decide_eq_true G.out]; simp), BW.out⟩
 have qo : decide ((4611686018427387903 : Int) < (o : Nat)) = false := decide_eq_false (by omega)
 have Go_ := Lib.hid g
 clear g
 by_cases g : 4611686018427387903 < d
 case pos =>
  have q : decide ((4611686018427387903 : Int) < (d : Nat)) = true := decide_eq_true (by omega)
  have G := Lib.hid g
  clear g
  go_wp2_with fail
  go_ret
  exact ⟨congrArg (fun z => Ending.returned (.bool z)) (by rw [← HR.out, decide_eq_true G.out]; simp), BW.out⟩
 have qd : decide ((4611686018427387903 : Int) < (d : Nat)) = false := decide_eq_false (by omega)
 have Gd_ := Lib.hid g
 clear g
 go_upto_region 17 with (fail)
 go_cut [95] (fun t wx => t = .bool (b6 && (decide (nc ≠ 8) || decide (nt ≠ 16))) ∧ W = wx)
 case first =>
  cases b6
  case false =>
   go_wp2_with fail
   go_meet
   exact ⟨by simp, rfl⟩
  by_cases g : nc = 8
  ·have q : ((nc : Int) != 8) = false := by simp; omega
   have G := Lib.hid g
   clear g
   by_cases g2 : nt = 16
   ·have q2 : ((nt : Int) != 16) = false := by simp; omega
    have G2 := Lib.hid g2
    clear g2
    go_wp2_with fail
    go_meet
    exact ⟨by simp [G.out, G2.out], rfl⟩
   ·have q2 : ((nt : Int) != 16) = true := by simp; omega
    have G2 := Lib.hid g2
    clear g2
    go_wp2_with fail
    go_meet
    exact ⟨by simp [G.out, G2.out], rfl⟩
  ·have q : ((nc : Int) != 8) = true := by simp; omega
   have G := Lib.hid g
   clear g
   go_wp2_with fail
   go_meet
   exact ⟨by simp [G.out], rfl⟩
 obtain ⟨rfl, rfl⟩ := hcut
 obtain ⟨x, hx⟩ : ∃ x, (b6 && (decide (nc ≠ 8) || decide (nt ≠ 16))) = x := ⟨_, rfl⟩
 rw [hx]
 have X17 := Lib.hid hx
 clear hx
 cases x
 case true =>
  go_wp2_with fail
  go_ret
  exact ⟨congrArg (fun z => Ending.returned (.bool z)) (by rw [← HR.out, X17.out]; simp), BW.out⟩
 go_upto_region 18 with (fail)
 go_cut [95] (fun t wx => t = .bool (b1 && !ok) ∧ Below W.heap.size W wx)
 case first =>
  cases b1
  case false =>
   go_wp2_with fail
   go_meet
   exact ⟨rfl, Below.refl _ _⟩
  go_wp2_with fail
  refine (HFL.out _ SW.out).mono ?_
  rintro e wy ⟨rfl, by1⟩
  have BY := Lib.hid by1
  clear by1
  go_wp2_with fail
  go_meet
  exact ⟨rfl, BY.out⟩
 obtain ⟨rfl, hb⟩ := hcut
 obtain ⟨x, hx⟩ : ∃ x, (b1 && !ok) = x := ⟨_, rfl⟩
 rw [hx]
 have X18 := Lib.hid hx
 have RV := Lib.hid (show row? wc w.heap.size = some F by rw [row?_below hb (row?_lt RF.out)]; exact RF.out)
 have BV := Lib.hid (BW.out.trans (hb.mono BW.out.size))
 clear hx hb c0 c1 c2 c3 c4 c5 c6 c7 c8 c9 p0 p1 p2 p3 p4 p5 p6 BW
 have BW := BV
 clear BV
 cases x
 case true =>
  go_wp2_with fail
  go_ret
  exact ⟨congrArg (fun z => Ending.returned (.bool z)) (by rw [← HR.out, X18.out]; simp), BW.out⟩
 obtain ⟨c0, c1, c2, c3, c4, c5, c6, c7, c8, c9⟩ := FC.out _ _ RV.out
 clear c2 c3 c4 c5 c6 c7 c8 c9
 go_upto_region 20 with (fail)
 go_cut [118] (fun t wx => t = .bool (decide (k = 0) && (decide (n < 1) || decide (16384 < n))) ∧ wc = wx)
 case first =>
  by_cases g : k = 0
  case neg =>
   have q : (k == 0) = false := by simpa using g
   have G := Lib.hid g
   clear g
   go_wp2_with fail
   go_meet
   exact ⟨by simp [G.out], rfl⟩
  have q : (k == 0) = true := by simpa using g
  have G := Lib.hid g
  clear g
  by_cases g1 : n < 1
  case pos =>
   have q1 : decide ((n : Int) < 1) = true := decide_eq_true (by omega)
   have G1 := Lib.hid g1
   clear g1
   go_wp2_with fail
   go_meet
   exact ⟨by simp [G.out, G1.out], rfl⟩
  have q1 : decide ((n : Int) < 1) = false := decide_eq_false (by omega)
  have G1 := Lib.hid g1
  clear g1
  by_cases g2 : 16384 < n
  ·have q2 : decide ((16384 : Int) < (n : Nat)) = true := decide_eq_true (by omega)
   have G2 := Lib.hid g2
   clear g2
   go_wp2_with fail
   go_meet
   exact ⟨by simp [G.out, G1.out, G2.out], rfl⟩
  ·have q2 : decide ((16384 : Int) < (n : Nat)) = false := decide_eq_false (by omega)
   have G2 := Lib.hid g2
   clear g2
   go_wp2_with fail
   go_meet
   exact ⟨by simp [G.out, G1.out, G2.out], rfl⟩
 obtain ⟨rfl, rfl⟩ := hcut
 obtain ⟨x, hx⟩ : ∃ x, (decide (k = 0) && (decide (n < 1) || decide (16384 < n))) = x := ⟨_, rfl⟩
 rw [hx]
 have X20 := Lib.hid hx
 clear hx
 cases x
 case true =>
  go_wp2_with fail
  go_ret
  exact ⟨congrArg (fun z => Ending.returned (.bool z)) (by rw [← HR.out, X20.out]; simp), BW.out⟩
 have lf := rldFF wc w.heap.size (by rw [RV.out, Option.map_some, hz])
 rw [RV.out] at lf
 have lf' : (loadAgg 159 (.pointer (some ⟨w.heap.size, 0, none⟩))).run Tryz.prog wc = .ok (.agg F) wc := lf
 clear lf
 go_wp2_with fail
 refine (HL.out _).mono ?_
 rintro e wz ⟨rfl, bz⟩
 have BZ := Lib.hid (BW.out.trans (bz.mono BW.out.size))
 clear bz lf'
 go_wp2_with fail
 go_ret
 exact ⟨congrArg (fun z => Ending.returned (.bool z)) (by rw [← HR.out, X3.out, X4.out, X5.out, X6.out, X7.out, X9.out, X10.out, X17.out, X18.out, X20.out, decide_eq_false Gn_.out, decide_eq_false Gi_.out, decide_eq_false Go_.out, decide_eq_false Gd_.out]; simp), BZ.out⟩
end Go.Proofs.YthjbmggpleliaaaGreatDoor

end
section
namespace Go.Proofs.YthjbmggpleliaaaGreatDoor
open Go.RowKit Go.Rw Frm Hdr
attribute [local go_sem ↓] ldFF stFF alFF
attribute [local go_sem] rldFF rstFF ralFF setRow_alloc_at setRow_alloc_past setRow_drew
set_option maxRecDepth 100000 in
set_option maxHeartbeats 2000000 in
theorem fput_26 (n d : Nat) (rs : List (Nat × Nat)) (i o : Nat) (fin : Bool) (dat cid tok : List UInt8) (ar ad ac at_ : Option Addr) (er ed ec et : Nat) (hm : mayB 26 n d rs.length (rsOk rs) i o fin dat.length cid.length tok.length = true) (w : World) (hr : Sr w (.slice ar rs.length er) rs) (hd : Sl w (.slice ad dat.length ed) dat) (hc : Sl w (.slice ac cid.length ec) cid) (ht : Sl w (.slice at_ tok.length et) tok) :
  Calls Tryz.prog 124 #[.agg (fvA 26 n d (.slice ar rs.length er) i o fin (.slice ad dat.length ed) (.slice ac cid.length ec) (.slice at_ tok.length et))] w fun e w' => ∃ v', e = .returned v' ∧ w'.ownsRow (w.heap.size + 1) 5 1 v' (Fr.put ⟨26, n, d, rs, i, o, fin, dat, cid, tok⟩).length ((Fr.put ⟨26, n, d, rs, i, o, fin, dat, cid, tok⟩).map bv) ∧ Below w.heap.size w w' := by
 obtain ⟨i0, hi0, hz0, hz1, hz2⟩ := info_parts info8
 have hm2 := hm
 have hpl : (decide (dat.length = 8) && plainB n d rs.length i o fin 0 cid.length tok.length) = true := hm2
 rw [Bool.and_eq_true, decide_eq_true_eq] at hpl
 have h8 := hpl.1
 have pb := plainB_true hpl.2
 have hnc : cid.length ≤ 1000000 := by omega
 have hnt : tok.length ≤ 1000000 := by omega
 have ld : dat.length ≤ 8 := by omega
 have hmay := fun W hs' => fmay_any 26 n d i o fin ar ad ac at_ rs.length dat.length cid.length tok.length er ed ec et rs hnc hnt W hs'
 rw [may_eq _ _ _ _ _ _ _ _ _ _ _ rsOk_pos, hm2] at hmay
 have fc := fun (W : World) (b : Nat) (h : row? W b = some (fvA 26 n d (.slice ar rs.length er) i o fin (.slice ad dat.length ed) (.slice ac cid.length ec) (.slice at_ tok.length et))) => fv_cells h
 have hz : (fvA 26 n d (.slice ar rs.length er) i o fin (.slice ad dat.length ed) (.slice ac cid.length ec) (.slice at_ tok.length et)).size = 10 := rfl
 generalize fvA 26 n d (.slice ar rs.length er) i o fin (.slice ad dat.length ed) (.slice ac cid.length ec) (.slice at_ tok.length et) = F at *
 have P0 : PS w F (w.alloc (.cells F 159)) := ⟨row?_alloc_at _ _ _ _ rfl, (Below.refl _ _).alloc (Nat.le_refl _) _⟩
 have lf := rldFF (w.alloc (.cells F 159)) w.heap.size (by rw [P0.row, Option.map_some, hz])
 rw [P0.row] at lf
 have lf' : (loadAgg 159 (.pointer (some ⟨w.heap.size, 0, none⟩))).run Tryz.prog (w.alloc (.cells F 159)) = .ok (.agg F) (w.alloc (.cells F 159)) := lf
 have HMAY := Lib.hid hmay
 have FC := Lib.hid fc
 have HR := Lib.hid hr
 have HD := Lib.hid hd
 have HC := Lib.hid hc
 have HT := Lib.hid ht
 have Q0 := Lib.hid P0
 clear hmay fc lf hm hm2 P0 hr hd hc ht hpl pb h8
 go_enter Tryz.func124, Tryz.ntmps124
 go_wp2_with fail
 refine (HMAY.out _ (HR.out.below Q0.out.bel)).mono ?_
 rintro e w1 ⟨rfl, b1⟩
 have Q1 := Lib.hid (Q0.out.step b1)
 obtain ⟨c0, c1, c2, c3, c4, c5, c6, c7, c8, c9⟩ := FC.out _ _ Q1.out.row
 clear b1 lf' Q0
 go_wp2_with fail
 refine (vput_any [] 26 (by simp) (by omega) _ _ (Sl.nil _)).mono ?_
 rintro e w2 ⟨v2, rfl, o2, b2⟩
 have e2 : ([] ++ vin 26 (vlen 26) : List UInt8) = [26] := by decide
 obtain ⟨q2, hq2⟩ : ∃ q2 : List UInt8, [26] = q2 := ⟨_, rfl⟩
 have kq2 : q2.length ≤ 1 := by rw [← hq2]; decide
 rw [e2, hq2] at o2
 have Hq2 := Lib.hid hq2
 have O2 := Lib.hid (own_lower o2 Q1.out.size)
 have Q2 := Lib.hid (Q1.out.step b2)
 obtain ⟨a2, x2, rfl, -, -, -⟩ := id (Own.sl o2)
 clear b2 o2 hq2 e2 Q1
 clear c0 c1 c2 c3 c4 c5 c6 c7 c8 c9
 obtain ⟨c0, c1, c2, c3, c4, c5, c6, c7, c8, c9⟩ := FC.out _ _ Q2.out.row
 have SS := Lib.hid (HD.out.below Q2.out.bel)
 go_wp2_with (at_builtin; refine app_sl rfl _ _ 22 rfl (w.heap.size + 1) 5 i0 Tryz.underlying22 hi0 hz0 hz1 hz2 _ _ rfl O2.out _ dat rfl SS.out ?hl3 ?hb3 ?_)
 case hl3 => omega
 case hb3 => exact Q2.out.size
 intro v3 w3 o3 g3
 have Q3 := Lib.hid (Q2.out.grown g3 (fun k hk => (O2.out.lt k hk).1))
 obtain ⟨q3, hq3⟩ : ∃ q3, q2 ++ dat = q3 := ⟨_, rfl⟩
 have kq3 : q3.length ≤ 9 := by rw [← hq3]; simp only [List.length_append]; omega
 rw [← List.map_append, ← List.length_append, hq3] at o3
 have Hq3 := Lib.hid hq3
 have O3 := Lib.hid o3
 obtain ⟨a3, x3, rfl, -, -, -⟩ := id (Own.sl o3)
 clear o3 g3 hq3 Q2 O2 SS
 clear c0 c1 c2 c3 c4 c5 c6 c7 c8 c9
 obtain ⟨c0, c1, c2, c3, c4, c5, c6, c7, c8, c9⟩ := FC.out _ _ Q3.out.row
 have HE := Lib.hid (show q3 = Fr.put ⟨26, n, d, rs, i, o, fin, dat, cid, tok⟩ by
  rw [← Hq3.out, ← Hq2.out]; rfl)
 go_wp2_with fail
 go_ret
 exact ⟨_, rfl, HE.out ▸ O3.out, Q3.out.bel⟩
set_option maxRecDepth 100000 in
set_option maxHeartbeats 2000000 in
theorem fput_27 (n d : Nat) (rs : List (Nat × Nat)) (i o : Nat) (fin : Bool) (dat cid tok : List UInt8) (ar ad ac at_ : Option Addr) (er ed ec et : Nat) (hm : mayB 27 n d rs.length (rsOk rs) i o fin dat.length cid.length tok.length = true) (w : World) (hr : Sr w (.slice ar rs.length er) rs) (hd : Sl w (.slice ad dat.length ed) dat) (hc : Sl w (.slice ac cid.length ec) cid) (ht : Sl w (.slice at_ tok.length et) tok) :
  Calls Tryz.prog 124 #[.agg (fvA 27 n d (.slice ar rs.length er) i o fin (.slice ad dat.length ed) (.slice ac cid.length ec) (.slice at_ tok.length et))] w fun e w' => ∃ v', e = .returned v' ∧ w'.ownsRow (w.heap.size + 1) 5 1 v' (Fr.put ⟨27, n, d, rs, i, o, fin, dat, cid, tok⟩).length ((Fr.put ⟨27, n, d, rs, i, o, fin, dat, cid, tok⟩).map bv) ∧ Below w.heap.size w w' := by
 obtain ⟨i0, hi0, hz0, hz1, hz2⟩ := info_parts info8
 have hm2 := hm
 have hpl : (decide (dat.length = 8) && plainB n d rs.length i o fin 0 cid.length tok.length) = true := hm2
 rw [Bool.and_eq_true, decide_eq_true_eq] at hpl
 have h8 := hpl.1
 have pb := plainB_true hpl.2
 have hnc : cid.length ≤ 1000000 := by omega
 have hnt : tok.length ≤ 1000000 := by omega
 have ld : dat.length ≤ 8 := by omega
 have hmay := fun W hs' => fmay_any 27 n d i o fin ar ad ac at_ rs.length dat.length cid.length tok.length er ed ec et rs hnc hnt W hs'
 rw [may_eq _ _ _ _ _ _ _ _ _ _ _ rsOk_pos, hm2] at hmay
 have fc := fun (W : World) (b : Nat) (h : row? W b = some (fvA 27 n d (.slice ar rs.length er) i o fin (.slice ad dat.length ed) (.slice ac cid.length ec) (.slice at_ tok.length et))) => fv_cells h
 have hz : (fvA 27 n d (.slice ar rs.length er) i o fin (.slice ad dat.length ed) (.slice ac cid.length ec) (.slice at_ tok.length et)).size = 10 := rfl
 generalize fvA 27 n d (.slice ar rs.length er) i o fin (.slice ad dat.length ed) (.slice ac cid.length ec) (.slice at_ tok.length et) = F at *
 have P0 : PS w F (w.alloc (.cells F 159)) := ⟨row?_alloc_at _ _ _ _ rfl, (Below.refl _ _).alloc (Nat.le_refl _) _⟩
 have lf := rldFF (w.alloc (.cells F 159)) w.heap.size (by rw [P0.row, Option.map_some, hz])
 rw [P0.row] at lf
 have lf' : (loadAgg 159 (.pointer (some ⟨w.heap.size, 0, none⟩))).run Tryz.prog (w.alloc (.cells F 159)) = .ok (.agg F) (w.alloc (.cells F 159)) := lf
 have HMAY := Lib.hid hmay
 have FC := Lib.hid fc
 have HR := Lib.hid hr
 have HD := Lib.hid hd
 have HC := Lib.hid hc
 have HT := Lib.hid ht
 have Q0 := Lib.hid P0
 clear hmay fc lf hm hm2 P0 hr hd hc ht hpl pb h8
 go_enter Tryz.func124, Tryz.ntmps124
 go_wp2_with fail
 refine (HMAY.out _ (HR.out.below Q0.out.bel)).mono ?_
 rintro e w1 ⟨rfl, b1⟩
 have Q1 := Lib.hid (Q0.out.step b1)
 obtain ⟨c0, c1, c2, c3, c4, c5, c6, c7, c8, c9⟩ := FC.out _ _ Q1.out.row
 clear b1 lf' Q0
 go_wp2_with fail
 refine (vput_any [] 27 (by simp) (by omega) _ _ (Sl.nil _)).mono ?_
 rintro e w2 ⟨v2, rfl, o2, b2⟩
 have e2 : ([] ++ vin 27 (vlen 27) : List UInt8) = [27] := by decide
 obtain ⟨q2, hq2⟩ : ∃ q2 : List UInt8, [27] = q2 := ⟨_, rfl⟩
 have kq2 : q2.length ≤ 1 := by rw [← hq2]; decide
 rw [e2, hq2] at o2
 have Hq2 := Lib.hid hq2
 have O2 := Lib.hid (own_lower o2 Q1.out.size)
 have Q2 := Lib.hid (Q1.out.step b2)
 obtain ⟨a2, x2, rfl, -, -, -⟩ := id (Own.sl o2)
 clear b2 o2 hq2 e2 Q1
 clear c0 c1 c2 c3 c4 c5 c6 c7 c8 c9
 obtain ⟨c0, c1, c2, c3, c4, c5, c6, c7, c8, c9⟩ := FC.out _ _ Q2.out.row
 have SS := Lib.hid (HD.out.below Q2.out.bel)
 go_wp2_with (at_builtin; refine app_sl rfl _ _ 22 rfl (w.heap.size + 1) 5 i0 Tryz.underlying22 hi0 hz0 hz1 hz2 _ _ rfl O2.out _ dat rfl SS.out ?hl3 ?hb3 ?_)
 case hl3 => omega
 case hb3 => exact Q2.out.size
 intro v3 w3 o3 g3
 have Q3 := Lib.hid (Q2.out.grown g3 (fun k hk => (O2.out.lt k hk).1))
 obtain ⟨q3, hq3⟩ : ∃ q3, q2 ++ dat = q3 := ⟨_, rfl⟩
 have kq3 : q3.length ≤ 9 := by rw [← hq3]; simp only [List.length_append]; omega
 rw [← List.map_append, ← List.length_append, hq3] at o3
 have Hq3 := Lib.hid hq3
 have O3 := Lib.hid o3
 obtain ⟨a3, x3, rfl, -, -, -⟩ := id (Own.sl o3)
 clear o3 g3 hq3 Q2 O2 SS
 clear c0 c1 c2 c3 c4 c5 c6 c7 c8 c9
 obtain ⟨c0, c1, c2, c3, c4, c5, c6, c7, c8, c9⟩ := FC.out _ _ Q3.out.row
 have HE := Lib.hid (show q3 = Fr.put ⟨27, n, d, rs, i, o, fin, dat, cid, tok⟩ by
  rw [← Hq3.out, ← Hq2.out]; rfl)
 go_wp2_with fail
 go_ret
 exact ⟨_, rfl, HE.out ▸ O3.out, Q3.out.bel⟩
set_option maxRecDepth 100000 in
set_option maxHeartbeats 2000000 in
theorem fput_16 (n d : Nat) (rs : List (Nat × Nat)) (i o : Nat) (fin : Bool) (dat cid tok : List UInt8) (ar ad ac at_ : Option Addr) (er ed ec et : Nat) (hm : mayB 16 n d rs.length (rsOk rs) i o fin dat.length cid.length tok.length = true) (w : World) (hr : Sr w (.slice ar rs.length er) rs) (hd : Sl w (.slice ad dat.length ed) dat) (hc : Sl w (.slice ac cid.length ec) cid) (ht : Sl w (.slice at_ tok.length et) tok) :
  Calls Tryz.prog 124 #[.agg (fvA 16 n d (.slice ar rs.length er) i o fin (.slice ad dat.length ed) (.slice ac cid.length ec) (.slice at_ tok.length et))] w fun e w' => ∃ v', e = .returned v' ∧ w'.ownsRow (w.heap.size + 1) 5 1 v' (Fr.put ⟨16, n, d, rs, i, o, fin, dat, cid, tok⟩).length ((Fr.put ⟨16, n, d, rs, i, o, fin, dat, cid, tok⟩).map bv) ∧ Below w.heap.size w w' := by
 obtain ⟨i0, hi0, hz0, hz1, hz2⟩ := info_parts info8
 have hm2 := hm
 have hpl : (decide (n ≤ 4611686018427387903) && plainB 0 d rs.length i o fin dat.length cid.length tok.length) = true := hm2
 rw [Bool.and_eq_true, decide_eq_true_eq] at hpl
 have hn := hpl.1
 have pb := plainB_true hpl.2
 have hnc : cid.length ≤ 1000000 := by omega
 have hnt : tok.length ≤ 1000000 := by omega
 have hn' : n < 4611686018427387904 := by omega
 have hmay := fun W hs' => fmay_any 16 n d i o fin ar ad ac at_ rs.length dat.length cid.length tok.length er ed ec et rs hnc hnt W hs'
 rw [may_eq _ _ _ _ _ _ _ _ _ _ _ rsOk_pos, hm2] at hmay
 have fc := fun (W : World) (b : Nat) (h : row? W b = some (fvA 16 n d (.slice ar rs.length er) i o fin (.slice ad dat.length ed) (.slice ac cid.length ec) (.slice at_ tok.length et))) => fv_cells h
 have hz : (fvA 16 n d (.slice ar rs.length er) i o fin (.slice ad dat.length ed) (.slice ac cid.length ec) (.slice at_ tok.length et)).size = 10 := rfl
 generalize fvA 16 n d (.slice ar rs.length er) i o fin (.slice ad dat.length ed) (.slice ac cid.length ec) (.slice at_ tok.length et) = F at *
 have P0 : PS w F (w.alloc (.cells F 159)) := ⟨row?_alloc_at _ _ _ _ rfl, (Below.refl _ _).alloc (Nat.le_refl _) _⟩
 have lf := rldFF (w.alloc (.cells F 159)) w.heap.size (by rw [P0.row, Option.map_some, hz])
 rw [P0.row] at lf
 have lf' : (loadAgg 159 (.pointer (some ⟨w.heap.size, 0, none⟩))).run Tryz.prog (w.alloc (.cells F 159)) = .ok (.agg F) (w.alloc (.cells F 159)) := lf
 have HMAY := Lib.hid hmay
 have FC := Lib.hid fc
 have HR := Lib.hid hr
 have HD := Lib.hid hd
 have HC := Lib.hid hc
 have HT := Lib.hid ht
 have Q0 := Lib.hid P0
 clear hmay fc lf hm hm2 P0 hr hd hc ht hpl pb hn
 go_enter Tryz.func124, Tryz.ntmps124
 go_wp2_with fail
 refine (HMAY.out _ (HR.out.below Q0.out.bel)).mono ?_
 rintro e w1 ⟨rfl, b1⟩
 have Q1 := Lib.hid (Q0.out.step b1)
 obtain ⟨c0, c1, c2, c3, c4, c5, c6, c7, c8, c9⟩ := FC.out _ _ Q1.out.row
 clear b1 lf' Q0
 go_wp2_with fail
 refine (vput_any [] 16 (by simp) (by omega) _ _ (Sl.nil _)).mono ?_
 rintro e w2 ⟨v2, rfl, o2, b2⟩
 have e2 : ([] ++ vin 16 (vlen 16) : List UInt8) = [16] := by decide
 obtain ⟨q2, hq2⟩ : ∃ q2 : List UInt8, [16] = q2 := ⟨_, rfl⟩
 have kq2 : q2.length ≤ 1 := by rw [← hq2]; decide
 rw [e2, hq2] at o2
 have Hq2 := Lib.hid hq2
 have O2 := Lib.hid (own_lower o2 Q1.out.size)
 have Q2 := Lib.hid (Q1.out.step b2)
 obtain ⟨a2, x2, rfl, -, -, -⟩ := id (Own.sl o2)
 clear b2 o2 hq2 e2 Q1
 clear c0 c1 c2 c3 c4 c5 c6 c7 c8 c9
 obtain ⟨c0, c1, c2, c3, c4, c5, c6, c7, c8, c9⟩ := FC.out _ _ Q2.out.row
 go_wp2_with fail
 refine (vput_any q2 n (by omega) (by omega) _ _ (Own.sl O2.out)).mono ?_
 rintro e w3 ⟨v3, rfl, o3, b3⟩
 obtain ⟨q3, hq3⟩ : ∃ q3, q2 ++ vin n (vlen n) = q3 := ⟨_, rfl⟩
 have kq3 : q3.length ≤ 9 := by rw [← hq3]; simp only [List.length_append, vin_length]; have := vlen_le n; omega
 rw [hq3] at o3
 have Hq3 := Lib.hid hq3
 have O3 := Lib.hid (own_lower o3 Q2.out.size)
 have Q3 := Lib.hid (Q2.out.step b3)
 obtain ⟨a3, x3, rfl, -, -, -⟩ := id (Own.sl o3)
 clear b3 o3 hq3 Q2 O2
 clear c0 c1 c2 c3 c4 c5 c6 c7 c8 c9
 obtain ⟨c0, c1, c2, c3, c4, c5, c6, c7, c8, c9⟩ := FC.out _ _ Q3.out.row
 have HE := Lib.hid (show q3 = Fr.put ⟨16, n, d, rs, i, o, fin, dat, cid, tok⟩ by
  rw [← Hq3.out, ← Hq2.out]; rfl)
 go_wp2_with fail
 go_ret
 exact ⟨_, rfl, HE.out ▸ O3.out, Q3.out.bel⟩
set_option maxRecDepth 100000 in
set_option maxHeartbeats 2000000 in
theorem fput_25 (n d : Nat) (rs : List (Nat × Nat)) (i o : Nat) (fin : Bool) (dat cid tok : List UInt8) (ar ad ac at_ : Option Addr) (er ed ec et : Nat) (hm : mayB 25 n d rs.length (rsOk rs) i o fin dat.length cid.length tok.length = true) (w : World) (hr : Sr w (.slice ar rs.length er) rs) (hd : Sl w (.slice ad dat.length ed) dat) (hc : Sl w (.slice ac cid.length ec) cid) (ht : Sl w (.slice at_ tok.length et) tok) :
  Calls Tryz.prog 124 #[.agg (fvA 25 n d (.slice ar rs.length er) i o fin (.slice ad dat.length ed) (.slice ac cid.length ec) (.slice at_ tok.length et))] w fun e w' => ∃ v', e = .returned v' ∧ w'.ownsRow (w.heap.size + 1) 5 1 v' (Fr.put ⟨25, n, d, rs, i, o, fin, dat, cid, tok⟩).length ((Fr.put ⟨25, n, d, rs, i, o, fin, dat, cid, tok⟩).map bv) ∧ Below w.heap.size w w' := by
 obtain ⟨i0, hi0, hz0, hz1, hz2⟩ := info_parts info8
 have hm2 := hm
 have hpl : (decide (n ≤ 4611686018427387903) && plainB 0 d rs.length i o fin dat.length cid.length tok.length) = true := hm2
 rw [Bool.and_eq_true, decide_eq_true_eq] at hpl
 have hn := hpl.1
 have pb := plainB_true hpl.2
 have hnc : cid.length ≤ 1000000 := by omega
 have hnt : tok.length ≤ 1000000 := by omega
 have hn' : n < 4611686018427387904 := by omega
 have hmay := fun W hs' => fmay_any 25 n d i o fin ar ad ac at_ rs.length dat.length cid.length tok.length er ed ec et rs hnc hnt W hs'
 rw [may_eq _ _ _ _ _ _ _ _ _ _ _ rsOk_pos, hm2] at hmay
 have fc := fun (W : World) (b : Nat) (h : row? W b = some (fvA 25 n d (.slice ar rs.length er) i o fin (.slice ad dat.length ed) (.slice ac cid.length ec) (.slice at_ tok.length et))) => fv_cells h
 have hz : (fvA 25 n d (.slice ar rs.length er) i o fin (.slice ad dat.length ed) (.slice ac cid.length ec) (.slice at_ tok.length et)).size = 10 := rfl
 generalize fvA 25 n d (.slice ar rs.length er) i o fin (.slice ad dat.length ed) (.slice ac cid.length ec) (.slice at_ tok.length et) = F at *
 have P0 : PS w F (w.alloc (.cells F 159)) := ⟨row?_alloc_at _ _ _ _ rfl, (Below.refl _ _).alloc (Nat.le_refl _) _⟩
 have lf := rldFF (w.alloc (.cells F 159)) w.heap.size (by rw [P0.row, Option.map_some, hz])
 rw [P0.row] at lf
 have lf' : (loadAgg 159 (.pointer (some ⟨w.heap.size, 0, none⟩))).run Tryz.prog (w.alloc (.cells F 159)) = .ok (.agg F) (w.alloc (.cells F 159)) := lf
 have HMAY := Lib.hid hmay
 have FC := Lib.hid fc
 have HR := Lib.hid hr
 have HD := Lib.hid hd
 have HC := Lib.hid hc
 have HT := Lib.hid ht
 have Q0 := Lib.hid P0
 clear hmay fc lf hm hm2 P0 hr hd hc ht hpl pb hn
 go_enter Tryz.func124, Tryz.ntmps124
 go_wp2_with fail
 refine (HMAY.out _ (HR.out.below Q0.out.bel)).mono ?_
 rintro e w1 ⟨rfl, b1⟩
 have Q1 := Lib.hid (Q0.out.step b1)
 obtain ⟨c0, c1, c2, c3, c4, c5, c6, c7, c8, c9⟩ := FC.out _ _ Q1.out.row
 clear b1 lf' Q0
 go_wp2_with fail
 refine (vput_any [] 25 (by simp) (by omega) _ _ (Sl.nil _)).mono ?_
 rintro e w2 ⟨v2, rfl, o2, b2⟩
 have e2 : ([] ++ vin 25 (vlen 25) : List UInt8) = [25] := by decide
 obtain ⟨q2, hq2⟩ : ∃ q2 : List UInt8, [25] = q2 := ⟨_, rfl⟩
 have kq2 : q2.length ≤ 1 := by rw [← hq2]; decide
 rw [e2, hq2] at o2
 have Hq2 := Lib.hid hq2
 have O2 := Lib.hid (own_lower o2 Q1.out.size)
 have Q2 := Lib.hid (Q1.out.step b2)
 obtain ⟨a2, x2, rfl, -, -, -⟩ := id (Own.sl o2)
 clear b2 o2 hq2 e2 Q1
 clear c0 c1 c2 c3 c4 c5 c6 c7 c8 c9
 obtain ⟨c0, c1, c2, c3, c4, c5, c6, c7, c8, c9⟩ := FC.out _ _ Q2.out.row
 go_wp2_with fail
 refine (vput_any q2 n (by omega) (by omega) _ _ (Own.sl O2.out)).mono ?_
 rintro e w3 ⟨v3, rfl, o3, b3⟩
 obtain ⟨q3, hq3⟩ : ∃ q3, q2 ++ vin n (vlen n) = q3 := ⟨_, rfl⟩
 have kq3 : q3.length ≤ 9 := by rw [← hq3]; simp only [List.length_append, vin_length]; have := vlen_le n; omega
 rw [hq3] at o3
 have Hq3 := Lib.hid hq3
 have O3 := Lib.hid (own_lower o3 Q2.out.size)
 have Q3 := Lib.hid (Q2.out.step b3)
 obtain ⟨a3, x3, rfl, -, -, -⟩ := id (Own.sl o3)
 clear b3 o3 hq3 Q2 O2
 clear c0 c1 c2 c3 c4 c5 c6 c7 c8 c9
 obtain ⟨c0, c1, c2, c3, c4, c5, c6, c7, c8, c9⟩ := FC.out _ _ Q3.out.row
 have HE := Lib.hid (show q3 = Fr.put ⟨25, n, d, rs, i, o, fin, dat, cid, tok⟩ by
  rw [← Hq3.out, ← Hq2.out]; rfl)
 go_wp2_with fail
 go_ret
 exact ⟨_, rfl, HE.out ▸ O3.out, Q3.out.bel⟩
end Go.Proofs.YthjbmggpleliaaaGreatDoor

end
