/- The statement GcmFields holds: in its field the product is the document's, the same in either order, spread over what is crossed; the digest of parts is of their blocks one by one. No condition. -/
import Derived.Test.YtdfblojnkchpdaaGcmL1
import Derived.Test.YtdfblojnkchpdaaGcmR2
import Derived.Test.YtdfblojnkchpdaaLawS
import Derived.Test.YtdfblojnkchpdaaLibE
import Derived.RegionTactic
import Derived.BigRegion
namespace Go.Proofs.Ytdfblojnkchpdaa
open Go.RowKit Go.Rw Aes Gcm Go.ChangeShapes Go.WideShapes Go.ChangeAt
theorem infoB : (Try.prog.info? 5).map (·.size) = some 1 := by kernel_rfl
theorem gEq16 (a b : List UInt8) (ha : a.length = 16) (hb : b.length = 16) (w : World) : (Op.equalIn 10000 22 (.agg (bvs a)) (.agg (bvs b))).run Try.prog w = .ok (a == b) w :=
  run_equalIn_bytes 9998 Try.underlying22 Try.underlying5 infoB a b ha hb w
attribute [local go_sem high] gEq16
attribute [local go_sem ↓] ld12 ld16 st16 al16 shift_shl8 shift_shr8 bvs_getElem?
attribute [local go_sem] rld12 rld16 rst16 ral16 setRow_alloc_at setRow_alloc_past setRow_drew bvs_setn
theorem rtimes2_any (x y : List UInt8) (hx : x.length = 16) (hy : y.length = 16) (w : World) :
    Calls Try.prog 20 #[.agg (bvs x), .agg (bvs y)] w fun e w' => e = .returned (.agg (bvs (Gcm.times x y))) ∧ Below w.heap.size w w' := by
  rw [← rtimes_eq x y hy]; exact rtimes_any x y hx hy w
theorem ptimesC_any (x y : List UInt8) (hx : x.length = 16) (hy : y.length = 16) (w : World) :
    Calls Try.prog 18 #[.agg (bvs y), .agg (bvs x)] w fun e w' => e = .returned (.agg (bvs (Gcm.times x y))) ∧ Below w.heap.size w w' := by
  rw [times_comm x y]; exact ptimes_any y x hy hx w
theorem pts_two {w : World} {B : Nat} {u1 u2 : Value} {a b : List UInt8} (h : row? w B = some #[u1, u2]) (h1 : Sl w u1 a) (h2 : Sl w u2 b) : Pts w (.slice (some ⟨B, 0, none⟩) 2 2) [a, b] := by
  refine ⟨_, 2, rfl, fun _ => ⟨B, 0, rfl, fun k hk => ?_⟩⟩
  rw [row?_cell h]
  match k, hk with
  | 0, _ => exact ⟨_, rfl, h1⟩
  | 1, _ => exact ⟨_, rfl, h2⟩

set_option maxRecDepth 20000 in
set_option maxHeartbeats 4000000 in
theorem fieldsLaw_any (x y z a b : List UInt8) (hx : x.length = 16) (hy : y.length = 16) (hz : z.length = 16) (va vb : Value) (w : World) (hsa : Sl w va a) (hsb : Sl w vb b) :
    Calls Try.prog 7 #[.agg (bvs x), .agg (bvs y), .agg (bvs z), va, vb] w fun e w' => e = .returned (.bool true) ∧ Below w.heap.size w w' := by
  have hsa0 := hsa
  have hsb0 := hsb
  obtain ⟨ao, cap, rfl, hc, hnn, hp⟩ := hsa0
  obtain ⟨ao2, cap2, rfl, hc2, hnn2, hp2⟩ := hsb0
  clear hnn hnn2 hp hp2
  by_cases h1 : a.length ≤ 60
  · by_cases h2 : b.length ≤ 60
    · go_enter Try.func7, Try.ntmps7
      go_wp2_with fail
      have bW : Below w.heap.size w (((((w.alloc (.cells (bvs x) 22)).alloc (.cells (bvs y) 22)).alloc (.cells (bvs z) 22)).alloc (.cells (bvs (zeros 16)) 22)).alloc (.cells (bvs (zeros 16)) 22)).drew := (bel5 _ _ _ _ _ _).drew
      have x0 : row? (((((w.alloc (.cells (bvs x) 22)).alloc (.cells (bvs y) 22)).alloc (.cells (bvs z) 22)).alloc (.cells (bvs (zeros 16)) 22)).alloc (.cells (bvs (zeros 16)) 22)).drew w.heap.size = some (bvs x) := by simp [go_sem]
      have x1 : row? (((((w.alloc (.cells (bvs x) 22)).alloc (.cells (bvs y) 22)).alloc (.cells (bvs z) 22)).alloc (.cells (bvs (zeros 16)) 22)).alloc (.cells (bvs (zeros 16)) 22)).drew (w.heap.size + 1) = some (bvs y) := by simp [go_sem]
      have x2 : row? (((((w.alloc (.cells (bvs x) 22)).alloc (.cells (bvs y) 22)).alloc (.cells (bvs z) 22)).alloc (.cells (bvs (zeros 16)) 22)).alloc (.cells (bvs (zeros 16)) 22)).drew (w.heap.size + 2) = some (bvs z) := by simp [go_sem]
      have x3 : row? (((((w.alloc (.cells (bvs x) 22)).alloc (.cells (bvs y) 22)).alloc (.cells (bvs z) 22)).alloc (.cells (bvs (zeros 16)) 22)).alloc (.cells (bvs (zeros 16)) 22)).drew (w.heap.size + 3) = some (bvs (zeros 16)) := by simp [go_sem]
      have x4 : row? (((((w.alloc (.cells (bvs x) 22)).alloc (.cells (bvs y) 22)).alloc (.cells (bvs z) 22)).alloc (.cells (bvs (zeros 16)) 22)).alloc (.cells (bvs (zeros 16)) 22)).drew (w.heap.size + 4) = some (bvs (zeros 16)) := by simp [go_sem]
      refine Rg.wp_region_flo [(0, 0), (1, 0), (3, 0), (4, 0)] [
          ⟨2, 28, [], false, fun v _ => v = .agg (bvs (Gcm.times x z))⟩,
          ⟨5, 31, [2], false, fun v _ => v = .agg (bvs (Gcm.times y z))⟩,
          ⟨6, 13, [], true, fun v w' => ∃ B, v = .pointer (some ⟨B, 0, none⟩) ∧ row? w' B = some (bvs (zeros 16))⟩,
          ⟨7, 14, [], true, fun v w' => ∃ B, v = .pointer (some ⟨B, 0, none⟩) ∧ row? w' B = some (bvs (zeros 16))⟩] [(2, 28, []), (5, 31, [2]), (6, 13, []), (7, 14, [])] [8, 9] (by kernel_rfl) (by kernel_rfl) rfl ?_
      simp only [Rg.row, Rg.PT.map, List.getD_cons_zero, List.getD_cons_succ]
      go_wp2_with (first
        | ((with_reducible refine Rg.plan_pure ?_ ?_ ?_); kernel_rfl; kernel_rfl; intro _ _)
        | ((with_reducible refine Rg.plan_take ?_ ?_ ?_); kernel_rfl; kernel_rfl; intro _ _)
        | ((with_reducible refine Rg.plan_keep ?_ ?_); kernel_rfl; intro K hK)
        | (refine hK _ _ (Rg.Keep.refl _) ?_; clear hK)
        | (refine hK _ _ (Rg.Keep.of_below (by assumption)) ?_; clear hK)
        | ((with_reducible refine Rg.plan_skip ?_ ?_); kernel_rfl)
        | (with_reducible refine Rg.plan_done ?_)
        | (with_reducible refine Rg.calm_normal ?_))
      refine Rg.phase_done (Rg.Phase.mk ?_ ?_ ?_)
      · refine List.forall_mem_cons.2 ⟨?_, List.forall_mem_cons.2 ⟨?_, List.forall_mem_cons.2 ⟨?_, List.forall_mem_cons.2 ⟨?_, fun r hr => (by cases hr)⟩⟩⟩⟩
        · exact fun v w1 w2 _ h => h
        · exact fun v w1 w2 _ h => h
        · rintro v w1 w2 hb ⟨B, e, h⟩; exact ⟨B, e, Rg.stable_row hb h⟩
        · rintro v w1 w2 hb ⟨B, e, h⟩; exact ⟨B, e, Rg.stable_row hb h⟩
      · refine List.forall_mem_cons.2 ⟨?_, List.forall_mem_cons.2 ⟨?_, List.forall_mem_cons.2 ⟨?_, List.forall_mem_cons.2 ⟨?_, fun r hr => (by cases hr)⟩⟩⟩⟩
        · intro us wx hbx hdep K hK
          refine Rg.exec_call (args := #[.agg (bvs x), .agg (bvs z)]) (by simp [go_sem, execOp, Rg.puts]) (ptimes_any x z hx hz _) ?_
          rintro e wy ⟨rfl, hy⟩
          exact ⟨_, rfl, hK _ _ _ rfl rfl hy (fun h => (by cases h))⟩
        · intro us wx hbx hdep K hK
          refine Rg.exec_call (args := #[.agg (bvs y), .agg (bvs z)]) (by simp [go_sem, execOp, Rg.puts]) (ptimes_any y z hy hz _) ?_
          rintro e wy ⟨rfl, hy⟩
          exact ⟨_, rfl, hK _ _ _ rfl rfl hy (fun h => (by cases h))⟩
        · intro us wx hbx hdep K hK
          exact Rg.exec_value (by simp [go_sem, execOp, Rg.puts]; rfl) (hK _ _ _ rfl ⟨_, rfl, row?_alloc_at _ _ _ _ rfl⟩ ((Below.refl _ _).alloc (Nat.le_refl _) _) (fun _ => ⟨Nat.le_refl _, by simp [Rg.vblk]⟩))
        · intro us wx hbx hdep K hK
          exact Rg.exec_value (by simp [go_sem, execOp, Rg.puts]; rfl) (hK _ _ _ rfl ⟨_, rfl, row?_alloc_at _ _ _ _ rfl⟩ ((Below.refl _ _).alloc (Nat.le_refl _) _) (fun _ => ⟨Nat.le_refl _, by simp [Rg.vblk]⟩))
      · intro us wZ hbZ hJ hfr hne
        have hne0 : Rg.vblk (us 6) ≠ Rg.vblk (us 7) := hne _ (List.getElem_mem (n := 2) (by simp)) _ (List.getElem_mem (n := 3) (by simp)) (by simp) rfl rfl
        have hfr0 : (((((w.alloc (.cells (bvs x) 22)).alloc (.cells (bvs y) 22)).alloc (.cells (bvs z) 22)).alloc (.cells (bvs (zeros 16)) 22)).alloc (.cells (bvs (zeros 16)) 22)).drew.heap.size ≤ Rg.vblk (us 6) := (hfr _ (List.getElem_mem (n := 2) (by simp)) rfl).1
        have hfr1 : (((((w.alloc (.cells (bvs x) 22)).alloc (.cells (bvs y) 22)).alloc (.cells (bvs z) 22)).alloc (.cells (bvs (zeros 16)) 22)).alloc (.cells (bvs (zeros 16)) 22)).drew.heap.size ≤ Rg.vblk (us 7) := (hfr _ (List.getElem_mem (n := 3) (by simp)) rfl).1
        simp only [List.forall_mem_cons] at hJ
        obtain ⟨e2, e5, ⟨BS, e6, rS⟩, ⟨BT, e7, rT⟩, -⟩ := hJ
        simp only [e6, e7, Rg.vblk] at hne0 hfr0 hfr1
        simp at hfr0 hfr1
        have y0 := Rg.stable_row hbZ x0
        have y1 := Rg.stable_row hbZ x1
        have y2 := Rg.stable_row hbZ x2
        have y3 := Rg.stable_row hbZ x3
        have y4 := Rg.stable_row hbZ x4
        have zb : Below w.heap.size w wZ := bW.trans (hbZ.mono bW.size)
        simp only [Rg.puts, List.map_cons, List.map_nil, List.getD_cons_zero, List.getD_cons_succ]
        simp only [e2, e5, e6, e7]
        have hSl := times_length x z
        have hTl := times_length y z
        have hST : add (Gcm.times x z) (Gcm.times y z) = Gcm.times (add x y) z := (times_addL x y z).symm
        have HPT : ∀ W, Calls Try.prog 18 #[.agg (bvs (add x y)), .agg (bvs z)] W fun e w' => e = .returned (.agg (bvs (add (Gcm.times x z) (Gcm.times y z)))) ∧ Below W.heap.size W w' := fun W => by
          rw [hST]; exact ptimes_any (add x y) z (add_length _ _) hz W
        clear hST
        generalize Gcm.times x z = S at *
        generalize Gcm.times y z = T at *
        have rT2 : row? (wZ.setRow BS (bvs S)) BT = some (bvs (zeros 16)) := by rw [row?_setRow_ne _ _ _ _ (fun e => hne0 e.symm)]; exact rT
        have ES := Lib.hid (show row? ((wZ.setRow BS (bvs S)).setRow BT (bvs T)) BS = some (bvs S) by rw [row?_setRow_ne _ _ _ _ hne0]; exact row?_setRow_eq rS)
        have ET := Lib.hid (row?_setRow_eq rT2 (c' := bvs T))
        have E0 := Lib.hid (show row? ((wZ.setRow BS (bvs S)).setRow BT (bvs T)) (w.heap.size + 0) = some (bvs (x)) by rw [row?_setRow_ne _ _ _ _ (by omega), row?_setRow_ne _ _ _ _ (by omega)]; exact y0)
        have E1 := Lib.hid (show row? ((wZ.setRow BS (bvs S)).setRow BT (bvs T)) (w.heap.size + 1) = some (bvs (y)) by rw [row?_setRow_ne _ _ _ _ (by omega), row?_setRow_ne _ _ _ _ (by omega)]; exact y1)
        have E2 := Lib.hid (show row? ((wZ.setRow BS (bvs S)).setRow BT (bvs T)) (w.heap.size + 2) = some (bvs (z)) by rw [row?_setRow_ne _ _ _ _ (by omega), row?_setRow_ne _ _ _ _ (by omega)]; exact y2)
        have E3 := Lib.hid (show row? ((wZ.setRow BS (bvs S)).setRow BT (bvs T)) (w.heap.size + 3) = some (bvs (zeros 16)) by rw [row?_setRow_ne _ _ _ _ (by omega), row?_setRow_ne _ _ _ _ (by omega)]; exact y3)
        have E4 := Lib.hid (show row? ((wZ.setRow BS (bvs S)).setRow BT (bvs T)) (w.heap.size + 4) = some (bvs (zeros 16)) by rw [row?_setRow_ne _ _ _ _ (by omega), row?_setRow_ne _ _ _ _ (by omega)]; exact y4)
        have EB := below_setRow (below_setRow zb (by omega : w.heap.size ≤ BS) (bvs S)) (by omega : w.heap.size ≤ BT) (bvs T)
        have qS := row?_lt rS
        have qT := row?_lt rT
        clear y0 y1 y2 y3 y4 x0 x1 x2 x3 x4 hne hfr e2 e5 e6 e7
        go_wp2_with (first
          | ((with_reducible refine Rg.plan_pure ?_ ?_ ?_); kernel_rfl; kernel_rfl; intro _ _)
          | ((with_reducible refine Rg.plan_take ?_ ?_ ?_); kernel_rfl; kernel_rfl; intro _ _)
          | ((with_reducible refine Rg.plan_keep ?_ ?_); kernel_rfl; intro K hK)
          | (refine hK _ _ (Rg.Keep.refl _) ?_; clear hK)
          | (refine hK _ _ (Rg.Keep.of_below (by assumption)) ?_; clear hK)
          | ((with_reducible refine Rg.plan_skip ?_ ?_); kernel_rfl)
          | (with_reducible refine Rg.plan_done ?_)
          | (with_reducible refine Rg.calm_normal ?_))
        clear rS rT rT2
        go_loopw [15] (fun v wr => ∃ k : Nat, k ≤ 16 ∧ v = .int .i64 k ∧ row? wr w.heap.size = some (bvs x) ∧ row? wr (w.heap.size + 1) = some (bvs y) ∧ row? wr (w.heap.size + 2) = some (bvs z) ∧ row? wr (w.heap.size + 3) = some (bvs (upto (addF x y) (zeros 16) 16 k)) ∧ row? wr (w.heap.size + 4) = some (bvs (upto (addF S T) (zeros 16) 16 k))
            ∧ row? wr BS = some (bvs S) ∧ row? wr BT = some (bvs T) ∧ Below w.heap.size w wr) (fun v _ => 16 - (intOf v).toNat)
        case atStart => exact ⟨0, by omega, rfl, E0.out, E1.out, E2.out, by rw [upto_zero _ _ _ (zeros_length _)]; exact E3.out, by rw [upto_zero _ _ _ (zeros_length _)]; exact E4.out, ES.out, ET.out, EB⟩
        case round =>
          obtain ⟨k, hk, rfl, r0, r1, r2, r3, r4, rS, rT, hb⟩ := hrel
          by_cases hlt : k < 16
          · have G1 := Lib.hid (upto_set (addF x y) (zeros 16) 16 k hlt)
            have G2 := Lib.hid (upto_set (addF S T) (zeros 16) 16 k hlt)
            have F0 := Lib.hid r0
            have F1 := Lib.hid r1
            have F2 := Lib.hid r2
            have F3 := Lib.hid r3
            have F4 := Lib.hid r4
            have FS := Lib.hid rS
            have FT := Lib.hid rT
            have c0 := row?_cell r0
            have c1 := row?_cell r1
            have c3 := row?_cell r3
            have c4 := row?_cell r4
            have cS := row?_cell rS
            have cT := row?_cell rT
            have f3 := row?_frozen r3
            have f4 := row?_frozen r4
            clear r0 r1 r2 r3 r4 rS rT
            go_wp2_with fail
            go_region
            all_goals (go_wp2_with fail)
            go_roundw
            case rel =>
              refine ⟨k + 1, by omega, by go_num, ?_, ?_, ?_, ?_, ?_, ?_, ?_, ((hb.setCell (by simp <;> omega) _).setCell (by simp <;> omega) _).drew⟩
              · rw [row?_drew, row?_setCell_ne _ _ _ _ (by simp <;> omega), row?_setCell_ne _ _ _ _ (by simp <;> omega)]; exact F0.out
              · rw [row?_drew, row?_setCell_ne _ _ _ _ (by simp <;> omega), row?_setCell_ne _ _ _ _ (by simp <;> omega)]; exact F1.out
              · rw [row?_drew, row?_setCell_ne _ _ _ _ (by simp <;> omega), row?_setCell_ne _ _ _ _ (by simp <;> omega)]; exact F2.out
              · rw [row?_drew, row?_setCell_ne _ _ _ _ (by simp <;> omega), row?_setCell_eq F3.out, bvs_setn]; exact congrArg (fun l => some (bvs l)) G1.out
              · rw [row?_drew, row?_setCell_eq (by rw [row?_setCell_ne _ _ _ _ (by simp <;> omega)]; exact F4.out), bvs_setn]; exact congrArg (fun l => some (bvs l)) G2.out
              · rw [row?_drew, row?_setCell_ne _ _ _ _ (by simp <;> omega), row?_setCell_ne _ _ _ _ (by simp <;> omega)]; exact FS.out
              · rw [row?_drew, row?_setCell_ne _ _ _ _ (by simp <;> omega), row?_setCell_ne _ _ _ _ (by simp <;> omega)]; exact FT.out
            case measure => simp [intOf]; omega
          · obtain rfl : k = 16 := by omega
            rw [upto_full] at r3 r4
            have hax : (List.range 16).map (addF x y) = add x y := rfl
            have hap : (List.range 16).map (addF S T) = add S T := rfl
            rw [hax] at r3
            rw [hap] at r4
            have q4 := row?_lt r4
            have hbz := hb.size
            have hPb : row? (wr.alloc (.cells #[.slice ao a.length cap, .slice ao2 b.length cap2] 24)) wr.heap.size = some #[.slice ao a.length cap, .slice ao2 b.length cap2] := row?_alloc_at _ _ _ _ rfl
            have hP := pts_two hPb (hsa.below (hb.alloc hbz _)) (hsb.below (hb.alloc hbz _))
            clear E0 E1 E2 E3 E4 ES ET rS rT hax hap
            go_wp2_with fail
            refine (hash_any z hz [a, b] (by simp) _ _ hP).mono ?_
            rintro e wH ⟨rfl, hH⟩
            have zH := hH.size
            simp at zH
            have hHl : (Gcm.hash z [a, b]).length = 16 := hash_length _ _
            have hal : (add x y).length = 16 := add_length _ _
            have hpl : (add S T).length = 16 := add_length _ _
            have bH : Below w.heap.size w wH := (hb.alloc hbz _).trans (hH.mono (by simp; omega))
            have hr0 : row? wH (w.heap.size) = some (bvs (x)) := by rw [row?_below hH (by first | omega | (simp; done) | (simp; omega)), row?_alloc_past _ _ _ (by omega)]; exact r0
            have hr1 : row? wH (w.heap.size + 1) = some (bvs (y)) := by rw [row?_below hH (by first | omega | (simp; done) | (simp; omega)), row?_alloc_past _ _ _ (by omega)]; exact r1
            have hr2 : row? wH (w.heap.size + 2) = some (bvs (z)) := by rw [row?_below hH (by first | omega | (simp; done) | (simp; omega)), row?_alloc_past _ _ _ (by omega)]; exact r2
            have hr3 : row? wH (w.heap.size + 3) = some (bvs (add x y)) := by rw [row?_below hH (by first | omega | (simp; done) | (simp; omega)), row?_alloc_past _ _ _ (by omega)]; exact r3
            have hr4 : row? wH (w.heap.size + 4) = some (bvs (add S T)) := by rw [row?_below hH (by first | omega | (simp; done) | (simp; omega)), row?_alloc_past _ _ _ (by omega)]; exact r4
            clear hH hP hPb r0 r1 r2 r3 r4
            have s0 : row? (wH.alloc (.cells (bvs (Gcm.hash z [a, b])) 22)) (w.heap.size) = some (bvs (x)) := by rw [row?_alloc_past _ _ _ (by omega)]; exact hr0
            have s1 : row? (wH.alloc (.cells (bvs (Gcm.hash z [a, b])) 22)) (w.heap.size + 1) = some (bvs (y)) := by rw [row?_alloc_past _ _ _ (by omega)]; exact hr1
            have s2 : row? (wH.alloc (.cells (bvs (Gcm.hash z [a, b])) 22)) (w.heap.size + 2) = some (bvs (z)) := by rw [row?_alloc_past _ _ _ (by omega)]; exact hr2
            have s3 : row? (wH.alloc (.cells (bvs (Gcm.hash z [a, b])) 22)) (w.heap.size + 3) = some (bvs (add x y)) := by rw [row?_alloc_past _ _ _ (by omega)]; exact hr3
            have s4 : row? (wH.alloc (.cells (bvs (Gcm.hash z [a, b])) 22)) (w.heap.size + 4) = some (bvs (add S T)) := by rw [row?_alloc_past _ _ _ (by omega)]; exact hr4
            have s5 : row? (wH.alloc (.cells (bvs (Gcm.hash z [a, b])) 22)) wH.heap.size = some (bvs (Gcm.hash z [a, b])) := row?_alloc_at _ _ _ _ rfl
            have sb : Below w.heap.size w (wH.alloc (.cells (bvs (Gcm.hash z [a, b])) 22)) := bH.alloc (by omega) _
            have g0 : w.heap.size < wH.heap.size := by omega
            have g1 : w.heap.size + 1 < wH.heap.size := by omega
            have g2 : w.heap.size + 2 < wH.heap.size := by omega
            go_wp2_with fail
            refine Rg.wp_region_plan (Rg.row [(0, 0), (1, 0), (3, 0), (4, 0), (2, 1), (5, 1), (6, 1), (7, 3), (8, 0), (9, 0), (11, 0), (12, 0), (10, 1), (13, 1), (14, 1), (15, 3), (16, 3), (17, 0), (18, 0), (20, 0), (19, 1), (21, 1), (22, 3), (23, 3), (24, 0), (25, 0), (26, 3), (27, 3), (28, 1), (29, 1), (30, 1), (31, 3), (32, 3), (33, 1), (34, 3), (35, 3)] []) [] (by kernel_rfl) (by kernel_rfl) ?_
            simp only [Rg.row, Rg.PT.map, List.map_nil, List.getD_cons_zero, List.getD_cons_succ]
            go_wp2_with (first
              | ((with_reducible refine Rg.plan_pure ?_ ?_ ?_); kernel_rfl; kernel_rfl; intro _ _)
              | ((with_reducible refine Rg.plan_take ?_ ?_ ?_); kernel_rfl; kernel_rfl; intro _ _)
              | ((with_reducible refine Rg.plan_keep ?_ ?_); kernel_rfl; intro K hK)
              | (refine hK _ _ (Rg.Keep.refl _) ?_; clear hK)
              | (refine hK _ _ (Rg.Keep.of_below (by assumption)) ?_; clear hK)
              | ((with_reducible refine Rg.plan_skip ?_ ?_); kernel_rfl)
              | (with_reducible refine Rg.plan_done ?_)
              | (with_reducible refine Rg.calm_normal ?_))
            refine (ptimes_any x y hx hy _).mono ?_
            rintro e wc1 ⟨rfl, hA⟩
            refine hK _ _ (Rg.Keep.of_below hA) ?_
            clear hK
            have zc1 := hA.size
            try simp at zc1
            have rc1_0 : row? wc1 (w.heap.size) = some (bvs (x)) := by rw [row?_below hA (by first | omega | (simp; done) | (simp; omega))]; exact s0
            have rc1_1 : row? wc1 (w.heap.size + 1) = some (bvs (y)) := by rw [row?_below hA (by first | omega | (simp; done) | (simp; omega))]; exact s1
            have rc1_2 : row? wc1 (w.heap.size + 2) = some (bvs (z)) := by rw [row?_below hA (by first | omega | (simp; done) | (simp; omega))]; exact s2
            have rc1_3 : row? wc1 (w.heap.size + 3) = some (bvs (add x y)) := by rw [row?_below hA (by first | omega | (simp; done) | (simp; omega))]; exact s3
            have rc1_4 : row? wc1 (w.heap.size + 4) = some (bvs (add S T)) := by rw [row?_below hA (by first | omega | (simp; done) | (simp; omega))]; exact s4
            have rc1_5 : row? wc1 (wH.heap.size) = some (bvs (Gcm.hash z [a, b])) := by rw [row?_below hA (by first | omega | (simp; done) | (simp; omega))]; exact s5
            have bc1 : Below w.heap.size w wc1 := sb.drew.trans (hA.mono (by first | omega | (simp; done) | (simp; omega)))
            clear hA 
            go_wp2_with (first
              | ((with_reducible refine Rg.plan_pure ?_ ?_ ?_); kernel_rfl; kernel_rfl; intro _ _)
              | ((with_reducible refine Rg.plan_take ?_ ?_ ?_); kernel_rfl; kernel_rfl; intro _ _)
              | ((with_reducible refine Rg.plan_keep ?_ ?_); kernel_rfl; intro K hK)
              | (refine hK _ _ (Rg.Keep.refl _) ?_; clear hK)
              | (refine hK _ _ (Rg.Keep.of_below (by assumption)) ?_; clear hK)
              | ((with_reducible refine Rg.plan_skip ?_ ?_); kernel_rfl)
              | (with_reducible refine Rg.plan_done ?_)
              | (with_reducible refine Rg.calm_normal ?_))
            refine (rtimes2_any x y hx hy _).mono ?_
            rintro e wc2 ⟨rfl, hA⟩
            refine hK _ _ (Rg.Keep.of_below hA) ?_
            clear hK
            have zc2 := hA.size
            try simp at zc2
            have rc2_0 : row? wc2 (w.heap.size) = some (bvs (x)) := by rw [row?_below hA (by first | omega | (simp; done) | (simp; omega))]; exact rc1_0
            have rc2_1 : row? wc2 (w.heap.size + 1) = some (bvs (y)) := by rw [row?_below hA (by first | omega | (simp; done) | (simp; omega))]; exact rc1_1
            have rc2_2 : row? wc2 (w.heap.size + 2) = some (bvs (z)) := by rw [row?_below hA (by first | omega | (simp; done) | (simp; omega))]; exact rc1_2
            have rc2_3 : row? wc2 (w.heap.size + 3) = some (bvs (add x y)) := by rw [row?_below hA (by first | omega | (simp; done) | (simp; omega))]; exact rc1_3
            have rc2_4 : row? wc2 (w.heap.size + 4) = some (bvs (add S T)) := by rw [row?_below hA (by first | omega | (simp; done) | (simp; omega))]; exact rc1_4
            have rc2_5 : row? wc2 (wH.heap.size) = some (bvs (Gcm.hash z [a, b])) := by rw [row?_below hA (by first | omega | (simp; done) | (simp; omega))]; exact rc1_5
            have bc2 : Below w.heap.size w wc2 := bc1.trans (hA.mono (by first | omega | (simp; done) | (simp; omega)))
            clear hA rc1_0 rc1_1 rc1_2 rc1_3 rc1_4 rc1_5
            go_wp2_with (first
              | ((with_reducible refine Rg.plan_pure ?_ ?_ ?_); kernel_rfl; kernel_rfl; intro _ _)
              | ((with_reducible refine Rg.plan_take ?_ ?_ ?_); kernel_rfl; kernel_rfl; intro _ _)
              | ((with_reducible refine Rg.plan_keep ?_ ?_); kernel_rfl; intro K hK)
              | (refine hK _ _ (Rg.Keep.refl _) ?_; clear hK)
              | (refine hK _ _ (Rg.Keep.of_below (by assumption)) ?_; clear hK)
              | ((with_reducible refine Rg.plan_skip ?_ ?_); kernel_rfl)
              | (with_reducible refine Rg.plan_done ?_)
              | (with_reducible refine Rg.calm_normal ?_))
            have hxy := times_length x y
            refine hK _ _ (Rg.Keep.refl _) ?_
            clear hK
            go_wp2_with (first
              | ((with_reducible refine Rg.plan_pure ?_ ?_ ?_); kernel_rfl; kernel_rfl; intro _ _)
              | ((with_reducible refine Rg.plan_take ?_ ?_ ?_); kernel_rfl; kernel_rfl; intro _ _)
              | ((with_reducible refine Rg.plan_keep ?_ ?_); kernel_rfl; intro K hK)
              | (refine hK _ _ (Rg.Keep.refl _) ?_; clear hK)
              | (refine hK _ _ (Rg.Keep.of_below (by assumption)) ?_; clear hK)
              | ((with_reducible refine Rg.plan_skip ?_ ?_); kernel_rfl)
              | (with_reducible refine Rg.plan_done ?_)
              | (with_reducible refine Rg.calm_normal ?_))
            refine (ptimes_any x y hx hy _).mono ?_
            rintro e wc3 ⟨rfl, hA⟩
            refine hK _ _ (Rg.Keep.of_below hA) ?_
            clear hK
            have zc3 := hA.size
            try simp at zc3
            have rc3_0 : row? wc3 (w.heap.size) = some (bvs (x)) := by rw [row?_below hA (by first | omega | (simp; done) | (simp; omega))]; exact rc2_0
            have rc3_1 : row? wc3 (w.heap.size + 1) = some (bvs (y)) := by rw [row?_below hA (by first | omega | (simp; done) | (simp; omega))]; exact rc2_1
            have rc3_2 : row? wc3 (w.heap.size + 2) = some (bvs (z)) := by rw [row?_below hA (by first | omega | (simp; done) | (simp; omega))]; exact rc2_2
            have rc3_3 : row? wc3 (w.heap.size + 3) = some (bvs (add x y)) := by rw [row?_below hA (by first | omega | (simp; done) | (simp; omega))]; exact rc2_3
            have rc3_4 : row? wc3 (w.heap.size + 4) = some (bvs (add S T)) := by rw [row?_below hA (by first | omega | (simp; done) | (simp; omega))]; exact rc2_4
            have rc3_5 : row? wc3 (wH.heap.size) = some (bvs (Gcm.hash z [a, b])) := by rw [row?_below hA (by first | omega | (simp; done) | (simp; omega))]; exact rc2_5
            have bc3 : Below w.heap.size w wc3 := bc2.trans (hA.mono (by first | omega | (simp; done) | (simp; omega)))
            clear hA rc2_0 rc2_1 rc2_2 rc2_3 rc2_4 rc2_5
            go_wp2_with (first
              | ((with_reducible refine Rg.plan_pure ?_ ?_ ?_); kernel_rfl; kernel_rfl; intro _ _)
              | ((with_reducible refine Rg.plan_take ?_ ?_ ?_); kernel_rfl; kernel_rfl; intro _ _)
              | ((with_reducible refine Rg.plan_keep ?_ ?_); kernel_rfl; intro K hK)
              | (refine hK _ _ (Rg.Keep.refl _) ?_; clear hK)
              | (refine hK _ _ (Rg.Keep.of_below (by assumption)) ?_; clear hK)
              | ((with_reducible refine Rg.plan_skip ?_ ?_); kernel_rfl)
              | (with_reducible refine Rg.plan_done ?_)
              | (with_reducible refine Rg.calm_normal ?_))
            refine (ptimesC_any x y hx hy _).mono ?_
            rintro e wc4 ⟨rfl, hA⟩
            refine hK _ _ (Rg.Keep.of_below hA) ?_
            clear hK
            have zc4 := hA.size
            try simp at zc4
            have rc4_0 : row? wc4 (w.heap.size) = some (bvs (x)) := by rw [row?_below hA (by first | omega | (simp; done) | (simp; omega))]; exact rc3_0
            have rc4_1 : row? wc4 (w.heap.size + 1) = some (bvs (y)) := by rw [row?_below hA (by first | omega | (simp; done) | (simp; omega))]; exact rc3_1
            have rc4_2 : row? wc4 (w.heap.size + 2) = some (bvs (z)) := by rw [row?_below hA (by first | omega | (simp; done) | (simp; omega))]; exact rc3_2
            have rc4_3 : row? wc4 (w.heap.size + 3) = some (bvs (add x y)) := by rw [row?_below hA (by first | omega | (simp; done) | (simp; omega))]; exact rc3_3
            have rc4_4 : row? wc4 (w.heap.size + 4) = some (bvs (add S T)) := by rw [row?_below hA (by first | omega | (simp; done) | (simp; omega))]; exact rc3_4
            have rc4_5 : row? wc4 (wH.heap.size) = some (bvs (Gcm.hash z [a, b])) := by rw [row?_below hA (by first | omega | (simp; done) | (simp; omega))]; exact rc3_5
            have bc4 : Below w.heap.size w wc4 := bc3.trans (hA.mono (by first | omega | (simp; done) | (simp; omega)))
            clear hA rc3_0 rc3_1 rc3_2 rc3_3 rc3_4 rc3_5
            go_wp2_with (first
              | ((with_reducible refine Rg.plan_pure ?_ ?_ ?_); kernel_rfl; kernel_rfl; intro _ _)
              | ((with_reducible refine Rg.plan_take ?_ ?_ ?_); kernel_rfl; kernel_rfl; intro _ _)
              | ((with_reducible refine Rg.plan_keep ?_ ?_); kernel_rfl; intro K hK)
              | (refine hK _ _ (Rg.Keep.refl _) ?_; clear hK)
              | (refine hK _ _ (Rg.Keep.of_below (by assumption)) ?_; clear hK)
              | ((with_reducible refine Rg.plan_skip ?_ ?_); kernel_rfl)
              | (with_reducible refine Rg.plan_done ?_)
              | (with_reducible refine Rg.calm_normal ?_))
            refine hK _ _ (Rg.Keep.refl _) ?_
            clear hK
            go_wp2_with (first
              | ((with_reducible refine Rg.plan_pure ?_ ?_ ?_); kernel_rfl; kernel_rfl; intro _ _)
              | ((with_reducible refine Rg.plan_take ?_ ?_ ?_); kernel_rfl; kernel_rfl; intro _ _)
              | ((with_reducible refine Rg.plan_keep ?_ ?_); kernel_rfl; intro K hK)
              | (refine hK _ _ (Rg.Keep.refl _) ?_; clear hK)
              | (refine hK _ _ (Rg.Keep.of_below (by assumption)) ?_; clear hK)
              | ((with_reducible refine Rg.plan_skip ?_ ?_); kernel_rfl)
              | (with_reducible refine Rg.plan_done ?_)
              | (with_reducible refine Rg.calm_normal ?_))
            refine (HPT _).mono ?_
            rintro e wc5 ⟨rfl, hA⟩
            refine hK _ _ (Rg.Keep.of_below hA) ?_
            clear hK
            have zc5 := hA.size
            try simp at zc5
            have rc5_0 : row? wc5 (w.heap.size) = some (bvs (x)) := by rw [row?_below hA (by first | omega | (simp; done) | (simp; omega))]; exact rc4_0
            have rc5_1 : row? wc5 (w.heap.size + 1) = some (bvs (y)) := by rw [row?_below hA (by first | omega | (simp; done) | (simp; omega))]; exact rc4_1
            have rc5_2 : row? wc5 (w.heap.size + 2) = some (bvs (z)) := by rw [row?_below hA (by first | omega | (simp; done) | (simp; omega))]; exact rc4_2
            have rc5_3 : row? wc5 (w.heap.size + 3) = some (bvs (add x y)) := by rw [row?_below hA (by first | omega | (simp; done) | (simp; omega))]; exact rc4_3
            have rc5_4 : row? wc5 (w.heap.size + 4) = some (bvs (add S T)) := by rw [row?_below hA (by first | omega | (simp; done) | (simp; omega))]; exact rc4_4
            have rc5_5 : row? wc5 (wH.heap.size) = some (bvs (Gcm.hash z [a, b])) := by rw [row?_below hA (by first | omega | (simp; done) | (simp; omega))]; exact rc4_5
            have bc5 : Below w.heap.size w wc5 := bc4.trans (hA.mono (by first | omega | (simp; done) | (simp; omega)))
            clear hA rc4_0 rc4_1 rc4_2 rc4_3 rc4_4 rc4_5
            go_wp2_with (first
              | ((with_reducible refine Rg.plan_pure ?_ ?_ ?_); kernel_rfl; kernel_rfl; intro _ _)
              | ((with_reducible refine Rg.plan_take ?_ ?_ ?_); kernel_rfl; kernel_rfl; intro _ _)
              | ((with_reducible refine Rg.plan_keep ?_ ?_); kernel_rfl; intro K hK)
              | (refine hK _ _ (Rg.Keep.refl _) ?_; clear hK)
              | (refine hK _ _ (Rg.Keep.of_below (by assumption)) ?_; clear hK)
              | ((with_reducible refine Rg.plan_skip ?_ ?_); kernel_rfl)
              | (with_reducible refine Rg.plan_done ?_)
              | (with_reducible refine Rg.calm_normal ?_))
            refine hK _ _ (Rg.Keep.refl _) ?_
            clear hK
            go_wp2_with (first
              | ((with_reducible refine Rg.plan_pure ?_ ?_ ?_); kernel_rfl; kernel_rfl; intro _ _)
              | ((with_reducible refine Rg.plan_take ?_ ?_ ?_); kernel_rfl; kernel_rfl; intro _ _)
              | ((with_reducible refine Rg.plan_keep ?_ ?_); kernel_rfl; intro K hK)
              | (refine hK _ _ (Rg.Keep.refl _) ?_; clear hK)
              | (refine hK _ _ (Rg.Keep.of_below (by assumption)) ?_; clear hK)
              | ((with_reducible refine Rg.plan_skip ?_ ?_); kernel_rfl)
              | (with_reducible refine Rg.plan_done ?_)
              | (with_reducible refine Rg.calm_normal ?_))
            refine hK _ _ (Rg.Keep.of_below ((Below.refl _ _).alloc (Nat.le_refl _) _)) ?_
            clear hK
            have hbz2 := bc5.size
            have hP2 : Pts (wc5.alloc (.cells #[.slice ao a.length cap, .slice ao2 b.length cap2] 24)) (.slice (some ⟨wc5.heap.size, 0, none⟩) 2 2) [a, b] := pts_two (row?_alloc_at _ _ _ _ rfl) (hsa.below (bc5.alloc hbz2 _)) (hsb.below (bc5.alloc hbz2 _))
            have bq : Below w.heap.size w (wc5.alloc (.cells #[.slice ao a.length cap, .slice ao2 b.length cap2] 24)) := bc5.alloc hbz2 _
            have rq0 : row? (wc5.alloc (.cells #[.slice ao a.length cap, .slice ao2 b.length cap2] 24)) (w.heap.size) = some (bvs (x)) := by rw [row?_alloc_past _ _ _ (row?_lt rc5_0)]; exact rc5_0
            have rq1 : row? (wc5.alloc (.cells #[.slice ao a.length cap, .slice ao2 b.length cap2] 24)) (w.heap.size + 1) = some (bvs (y)) := by rw [row?_alloc_past _ _ _ (row?_lt rc5_1)]; exact rc5_1
            have rq2 : row? (wc5.alloc (.cells #[.slice ao a.length cap, .slice ao2 b.length cap2] 24)) (w.heap.size + 2) = some (bvs (z)) := by rw [row?_alloc_past _ _ _ (row?_lt rc5_2)]; exact rc5_2
            have rq3 : row? (wc5.alloc (.cells #[.slice ao a.length cap, .slice ao2 b.length cap2] 24)) (w.heap.size + 3) = some (bvs (add x y)) := by rw [row?_alloc_past _ _ _ (row?_lt rc5_3)]; exact rc5_3
            have rq4 : row? (wc5.alloc (.cells #[.slice ao a.length cap, .slice ao2 b.length cap2] 24)) (w.heap.size + 4) = some (bvs (add S T)) := by rw [row?_alloc_past _ _ _ (row?_lt rc5_4)]; exact rc5_4
            have rq5 : row? (wc5.alloc (.cells #[.slice ao a.length cap, .slice ao2 b.length cap2] 24)) (wH.heap.size) = some (bvs (Gcm.hash z [a, b])) := by rw [row?_alloc_past _ _ _ (row?_lt rc5_5)]; exact rc5_5
            clear rc5_0 rc5_1 rc5_2 rc5_3 rc5_4 rc5_5
            go_wp2_with (first
              | ((with_reducible refine Rg.plan_pure ?_ ?_ ?_); kernel_rfl; kernel_rfl; intro _ _)
              | ((with_reducible refine Rg.plan_take ?_ ?_ ?_); kernel_rfl; kernel_rfl; intro _ _)
              | ((with_reducible refine Rg.plan_keep ?_ ?_); kernel_rfl; intro K hK)
              | (refine hK _ _ (Rg.Keep.refl _) ?_; clear hK)
              | (refine hK _ _ (Rg.Keep.of_below (by assumption)) ?_; clear hK)
              | ((with_reducible refine Rg.plan_skip ?_ ?_); kernel_rfl)
              | (with_reducible refine Rg.plan_done ?_)
              | (with_reducible refine Rg.calm_normal ?_))
            refine (rhash_any z hz [a, b] (by simp) (by intro p hp; simp at hp; rcases hp with rfl | rfl <;> omega) _ _ hP2).mono ?_
            rintro e wc6 ⟨rfl, hA⟩
            refine hK _ _ (Rg.Keep.of_below hA) ?_
            clear hK
            have zc6 := hA.size
            try simp at zc6
            have rc6_0 : row? wc6 (w.heap.size) = some (bvs (x)) := by rw [row?_below hA (by first | omega | (simp; done) | (simp; omega))]; exact rq0
            have rc6_1 : row? wc6 (w.heap.size + 1) = some (bvs (y)) := by rw [row?_below hA (by first | omega | (simp; done) | (simp; omega))]; exact rq1
            have rc6_2 : row? wc6 (w.heap.size + 2) = some (bvs (z)) := by rw [row?_below hA (by first | omega | (simp; done) | (simp; omega))]; exact rq2
            have rc6_3 : row? wc6 (w.heap.size + 3) = some (bvs (add x y)) := by rw [row?_below hA (by first | omega | (simp; done) | (simp; omega))]; exact rq3
            have rc6_4 : row? wc6 (w.heap.size + 4) = some (bvs (add S T)) := by rw [row?_below hA (by first | omega | (simp; done) | (simp; omega))]; exact rq4
            have rc6_5 : row? wc6 (wH.heap.size) = some (bvs (Gcm.hash z [a, b])) := by rw [row?_below hA (by first | omega | (simp; done) | (simp; omega))]; exact rq5
            have bc6 : Below w.heap.size w wc6 := bq.trans (hA.mono (by first | omega | (simp; done) | (simp; omega)))
            clear hA 
            go_wp2_with (first
              | ((with_reducible refine Rg.plan_pure ?_ ?_ ?_); kernel_rfl; kernel_rfl; intro _ _)
              | ((with_reducible refine Rg.plan_take ?_ ?_ ?_); kernel_rfl; kernel_rfl; intro _ _)
              | ((with_reducible refine Rg.plan_keep ?_ ?_); kernel_rfl; intro K hK)
              | (refine hK _ _ (Rg.Keep.refl _) ?_; clear hK)
              | (refine hK _ _ (Rg.Keep.of_below (by assumption)) ?_; clear hK)
              | ((with_reducible refine Rg.plan_skip ?_ ?_); kernel_rfl)
              | (with_reducible refine Rg.plan_done ?_)
              | (with_reducible refine Rg.calm_normal ?_))
            refine hK _ _ (Rg.Keep.refl _) ?_
            clear hK
            go_wp2_with (first
              | ((with_reducible refine Rg.plan_pure ?_ ?_ ?_); kernel_rfl; kernel_rfl; intro _ _)
              | ((with_reducible refine Rg.plan_take ?_ ?_ ?_); kernel_rfl; kernel_rfl; intro _ _)
              | ((with_reducible refine Rg.plan_keep ?_ ?_); kernel_rfl; intro K hK)
              | (refine hK _ _ (Rg.Keep.refl _) ?_; clear hK)
              | (refine hK _ _ (Rg.Keep.of_below (by assumption)) ?_; clear hK)
              | ((with_reducible refine Rg.plan_skip ?_ ?_); kernel_rfl)
              | (with_reducible refine Rg.plan_done ?_)
              | (with_reducible refine Rg.calm_normal ?_))
            refine (awake_any _).mono ?_
            rintro e wc7 ⟨rfl, hA⟩
            refine hK _ _ (Rg.Keep.of_below hA) ?_
            clear hK
            have zc7 := hA.size
            try simp at zc7
            have rc7_0 : row? wc7 (w.heap.size) = some (bvs (x)) := by rw [row?_below hA (by first | omega | (simp; done) | (simp; omega))]; exact rc6_0
            have rc7_1 : row? wc7 (w.heap.size + 1) = some (bvs (y)) := by rw [row?_below hA (by first | omega | (simp; done) | (simp; omega))]; exact rc6_1
            have rc7_2 : row? wc7 (w.heap.size + 2) = some (bvs (z)) := by rw [row?_below hA (by first | omega | (simp; done) | (simp; omega))]; exact rc6_2
            have rc7_3 : row? wc7 (w.heap.size + 3) = some (bvs (add x y)) := by rw [row?_below hA (by first | omega | (simp; done) | (simp; omega))]; exact rc6_3
            have rc7_4 : row? wc7 (w.heap.size + 4) = some (bvs (add S T)) := by rw [row?_below hA (by first | omega | (simp; done) | (simp; omega))]; exact rc6_4
            have rc7_5 : row? wc7 (wH.heap.size) = some (bvs (Gcm.hash z [a, b])) := by rw [row?_below hA (by first | omega | (simp; done) | (simp; omega))]; exact rc6_5
            have bc7 : Below w.heap.size w wc7 := bc6.trans (hA.mono (by first | omega | (simp; done) | (simp; omega)))
            clear hA rc6_0 rc6_1 rc6_2 rc6_3 rc6_4 rc6_5
            go_wp2_with (first
              | ((with_reducible refine Rg.plan_pure ?_ ?_ ?_); kernel_rfl; kernel_rfl; intro _ _)
              | ((with_reducible refine Rg.plan_take ?_ ?_ ?_); kernel_rfl; kernel_rfl; intro _ _)
              | ((with_reducible refine Rg.plan_keep ?_ ?_); kernel_rfl; intro K hK)
              | (refine hK _ _ (Rg.Keep.refl _) ?_; clear hK)
              | (refine hK _ _ (Rg.Keep.of_below (by assumption)) ?_; clear hK)
              | ((with_reducible refine Rg.plan_skip ?_ ?_); kernel_rfl)
              | (with_reducible refine Rg.plan_done ?_)
              | (with_reducible refine Rg.calm_normal ?_))
            go_ret
            exact ⟨rfl, bc7⟩
    · go_enter Try.func7, Try.ntmps7
      go_wp2_with (go_at_call 9; refine (awake_any _).mono ?_; rintro e w' ⟨rfl, hb⟩)
      go_ret
      exact ⟨rfl, (bel3 w _ _ _).trans (hb.mono (by simp; omega))⟩
  · go_enter Try.func7, Try.ntmps7
    go_wp2_with (go_at_call 9; refine (awake_any _).mono ?_; rintro e w' ⟨rfl, hb⟩)
    go_ret
    exact ⟨rfl, (bel3 w _ _ _).trans (hb.mono (by simp; omega))⟩
namespace gcmFieldsP
theorem own : ownKnob Try.prog.godebug = none := by kernel_rfl
theorem laidOut : laidOutB Try.prog = true := by kernel_rfl
theorem readable : (Try.f7.params.toList.all fun t => Try.prog.readableRec t && decide (t < Try.prog.types.size)) = true := by kernel_rfl
theorem contract (H : Type) (enc : TypeId × Value → H) (W : World) (base : Nat) (args : Array Value) (ds gs : List (DataW H)) (before : List MemPlace)
    (hval : ∀ (j : Nat) t v, Try.f7.params[j]? = some t → args[j]? = some v → Value.okWide Try.prog W .any base t v)
    (hW : DataW.Whole enc Try.prog Try.f7.params.toList Rows.gcmFieldsSpec.vars false W args.toList ds gs before) :
    Calls Try.prog 7 args W fun e W' => ∃ v, e = .returned v ∧ Rows.gcmFieldsSpec.post enc Try.prog Try.f7 false true false false W args v W' := by
  have hW' := hW
  obtain ⟨p, q, hA0, hV, rfl, hfz, hnd⟩ := hW
  have hA : DataW.TrodAll enc Try.prog W 0 (fun _ => true) true Try.f7.params.toList args.toList ds p := hA0
  rw [Try.params7] at hA hval
  obtain ⟨v0, vs0, d0, ds0, p0, q0, hargs, rfl, rfl, h0, r0⟩ := trodAll_cons hA
  obtain ⟨v1, vs1, d1, ds1, p1, q1, rfl, rfl, rfl, h1, r1⟩ := trodAll_cons r0
  obtain ⟨v2, vs2, d2, ds2, p2, q2, rfl, rfl, rfl, h2, r2⟩ := trodAll_cons r1
  obtain ⟨v3, vs3, d3, ds3, p3, q3, rfl, rfl, rfl, h3, r3⟩ := trodAll_cons r2
  obtain ⟨v4, vs4, d4, ds4, p4, q4, rfl, rfl, rfl, h4, r4⟩ := trodAll_cons r3
  obtain ⟨rfl, rfl, rfl⟩ := trodAll_nil r4
  obtain rfl : args = #[v0, v1, v2, v3, v4] := by cases args; simp_all
  obtain ⟨x, h_x, rfl⟩ := Law.open_bytes Try.underlying22 (by kernel_rfl) ⟨List.replicate 16 5, by kernel_rfl, by kernel_rfl⟩ Try.underlying5 (hval 0 22 v0 rfl rfl)
  obtain ⟨y, h_y, rfl⟩ := Law.open_bytes Try.underlying22 (by kernel_rfl) ⟨List.replicate 16 5, by kernel_rfl, by kernel_rfl⟩ Try.underlying5 (hval 1 22 v1 rfl rfl)
  obtain ⟨z, h_z, rfl⟩ := Law.open_bytes Try.underlying22 (by kernel_rfl) ⟨List.replicate 16 5, by kernel_rfl, by kernel_rfl⟩ Try.underlying5 (hval 2 22 v2 rfl rfl)
  obtain ⟨a, h_a⟩ := Law.open_slice Try.underlying24 Try.underlying5 (by kernel_rfl) (hval 3 24 v3 rfl rfl) h3
  obtain ⟨b, h_b⟩ := Law.open_slice Try.underlying24 Try.underlying5 (by kernel_rfl) (hval 4 24 v4 rfl rfl) h4
  refine (fieldsLaw_any x y z a b h_x h_y h_z v3 v4 W h_a h_b).mono fun e W' ⟨he, hb⟩ => ?_
  subst he
  exact ⟨_, rfl, Law.post_of_law laidOut readable hW' rfl hb rfl Try.underlying4 rfl rfl rfl⟩
set_option maxRecDepth 100000 in
theorem lifted (os : Os) (started : os.Started) (H : Type) (enc : TypeId × Value → H) :
    ReturnsInHanded {} Try.checked os 7 .any (Rows.gcmFieldsSpec.pre6 enc Try.prog Try.f7 Rows.gcmFieldsRow.domain false) (Rows.gcmFieldsSpec.post enc Try.prog Try.f7 false true false false) := by
  refine returnsInHanded_of_change (C := Try.checked) own started (by kernel_rfl) Try.func7
    (ChangeSpec.witness6 (enc := enc) (C := Try.checked) false ⟨#[], #[.agg #[.int .u8 0, .int .u8 0, .int .u8 0, .int .u8 0, .int .u8 0, .int .u8 0, .int .u8 0, .int .u8 0, .int .u8 0, .int .u8 0, .int .u8 0, .int .u8 0, .int .u8 0, .int .u8 0, .int .u8 0, .int .u8 0], .agg #[.int .u8 0, .int .u8 0, .int .u8 0, .int .u8 0, .int .u8 0, .int .u8 0, .int .u8 0, .int .u8 0, .int .u8 0, .int .u8 0, .int .u8 0, .int .u8 0, .int .u8 0, .int .u8 0, .int .u8 0, .int .u8 0], .agg #[.int .u8 0, .int .u8 0, .int .u8 0, .int .u8 0, .int .u8 0, .int .u8 0, .int .u8 0, .int .u8 0, .int .u8 0, .int .u8 0, .int .u8 0, .int .u8 0, .int .u8 0, .int .u8 0, .int .u8 0, .int .u8 0], .slice none 0 0, .slice none 0 0], []⟩ 8 (by kernel_rfl) (by kernel_rfl) (by kernel_rfl) (by kernel_rfl)) ?_
  intro W base args ds gs before hval hW _ _
  exact contract H enc W base args ds gs before hval hW
theorem said : Rows.GcmFieldsSaid :=
  OpenClaim.holds_of_wide 7 Try.f7 rfl rfl rfl rfl rfl rfl rfl ⟨rfl, rfl, rfl, rfl, rfl⟩ rfl rfl rfl rfl rfl (by kernel_rfl) Try.func7 (by kernel_rfl)
    (of_decide_eq_true (by kernel_rfl)) (by unfold Func.isWrapper; first | (rw [if_pos (by decide +kernel)]; kernel_rfl) | (rw [if_neg (by decide +kernel)]; exact ⟨rfl, rfl⟩))
    (fun os started H enc _ => lifted os started H enc)
end gcmFieldsP
end Go.Proofs.Ytdfblojnkchpdaa
