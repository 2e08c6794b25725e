/- The walk of the law ToneBack. -/
import Derived.Test.YtenoldpfclmedaaTonN
import Derived.Test.YtenoldpfclmedaaLibK
import Derived.Test.YtenoldpfclmedaaLibF
namespace Tone
open Go Go.Rw
theorem upF_bump (f : Nat → Int) (k : Nat) (y : Int) (h : k < 4) : (upF f 4).set k (f k + y) = upF (bump f k y) 4 := by
  rcases (by omega : k = 0 ∨ k = 1 ∨ k = 2 ∨ k = 3) with rfl | rfl | rfl | rfl <;> simp [upF, bump, List.range_succ]
theorem ni_cons (x : Int) (l : List Int) (j : Nat) : ni (x :: l) (j + 1) = ni l j := by simp [ni]
theorem q4_cons (l : List Int) (j : Nat) (hj : j < 4) : ∀ n, q4 (0 :: l) (n + 1) ((j + 1) % 4) = q4 l n j
  | 0 => by simp [q4, bump, ni]
  | n + 1 => by
    have ih := q4_cons l j hj n
    have e1 : q4 (0 :: l) (n + 1 + 1) = bump (q4 (0 :: l) (n + 1)) ((n + 1) % 4) (ni (0 :: l) (n + 1)) := rfl
    have e2 : q4 l (n + 1) = bump (q4 l n) (n % 4) (ni l n) := rfl
    rw [e1, e2]
    unfold bump
    rw [ih, ni_cons]
    congr 1
    by_cases h : n % 4 = j
    · rw [if_pos h, if_pos (by omega)]
    · rw [if_neg h, if_neg (by omega)]
end Tone
namespace Go.Proofs.Ytenoldpfclmedaa
open Go.RowKit Go.Rw Tone
theorem powV_swap (a b : Int) : powV a b = powV b a := by
  unfold powV
  by_cases h : (a.natAbs : Int) ≤ 33554432 ∧ (b.natAbs : Int) ≤ 33554432
  · rw [if_pos h, if_pos h.symm]; omega
  · rw [if_neg h, if_neg (fun k => h k.symm)]
theorem powV_neg (a b : Int) : powV (-a) b = powV a b := by
  unfold powV
  rw [Int.natAbs_neg, Int.neg_mul_neg]
theorem pow_shift {f g : Nat → Int} (h : ∀ j, j < 4 → g ((j + 1) % 4) = f j) (k : Nat) (hk : k < 4) : powV (re g k) (im g k) = powV (re f k) (im f k) := by
  have h0 : g 1 = f 0 := h 0 (by omega)
  have h1 : g 2 = f 1 := h 1 (by omega)
  have h2 : g 3 = f 2 := h 2 (by omega)
  have h3 : g 0 = f 3 := h 3 (by omega)
  rcases (by omega : k = 0 ∨ k = 1 ∨ k = 2 ∨ k = 3) with rfl | rfl | rfl | rfl
  · rw [re0, im0, re0, im0, h0, h1, h2, h3, show f 3 + f 0 + f 1 + f 2 = f 0 + f 1 + f 2 + f 3 by omega]
  · rw [re1, im1, re1, im1, h0, h1, h2, h3, powV_swap, show f 2 - f 0 = -(f 0 - f 2) by omega, powV_neg, show f 3 - f 1 = f 3 - f 1 from rfl]
  · rw [re2, im2, re2, im2, h0, h1, h2, h3, show f 3 - f 0 + f 1 - f 2 = -(f 0 - f 1 + f 2 - f 3) by omega, powV_neg]
  · rw [re3, im3, re3, im3, h0, h1, h2, h3, show f 3 - f 1 = -(f 1 - f 3) by omega, powV_neg, powV_swap]
theorem pow_zeros (l : List Int) (n k : Nat) (hk : k < 4) : ∀ i, powV (re (q4 (List.replicate i 0 ++ l) (i + n)) k) (im (q4 (List.replicate i 0 ++ l) (i + n)) k) = powV (re (q4 l n) k) (im (q4 l n) k)
  | 0 => by simp
  | i + 1 => by
    rw [← pow_zeros l n k hk i, List.replicate_succ, List.cons_append, show i + 1 + n = i + n + 1 by omega]
    exact pow_shift (fun j hj => q4_cons _ j hj _) k hk
theorem zeros_ok {l : List Int} (h : okN l) : ∀ i, okN (List.replicate i 0 ++ l)
  | 0 => by simpa using h
  | i + 1 => fun j hj => by
    rw [List.replicate_succ, List.cons_append] at hj ⊢
    match j with
    | 0 => simp [ni]
    | j + 1 =>
      rw [ni_cons]
      exact zeros_ok h i j (by simp at hj ⊢; omega)
attribute [local go_sem ↓] ldZ stZ alZ ldI stI alI
attribute [local go_sem] rldZ rstZ ralZ rldI rstI ralI setRow_alloc_at setRow_alloc_past setRow_drew run_store_cx upF_len
theorem small_of_tight {f : Nat → Int} {m : Nat} (h : tight f m) (hm : m ≤ 120) : small f := fun j => by have := h j; omega
def apart (u v : Value) : Prop := ∀ k, u.ownBlock = some k → v.ownBlock ≠ some k
theorem zeros_next (i : Nat) : List.replicate i (0 : Int) ++ [0] = List.replicate (i + 1) 0 := by rw [← List.replicate_succ']
set_option maxRecDepth 20000 in
set_option maxHeartbeats 4000000 in
theorem backLaw_any (xs : List Int) (A : Int) (vx : Value) (w : World) (hx : Si w vx xs) :
    Calls Try.prog 4 #[vx, .int .i64 A] w fun e w' => e = .returned (.bool true) ∧ Below w.heap.size w w' := by
  have HX := Lib.hid hx
  obtain ⟨ax, cx, rfl, _, hnn, hp⟩ := hx
  obtain ⟨i0, hi, hz0, hz1, hz2⟩ := info_parts infoI
  by_cases hl1 : 60 < xs.length
  · have hl : (60 : Int) < xs.length := by omega
    go_enter Try.func4, Try.ntmps4
    go_wp2_with fail
    refine (awake_any _).mono ?_
    rintro e w' ⟨rfl, hb⟩
    go_wp2_with fail
    go_ret
    exact ⟨rfl, hb⟩
  have hA := low_lt A 4 (by omega)
  go_enter Try.func4, Try.ntmps4
  go_wp2_with fail
  refine (low_any A 4 (by omega) (by omega) _).mono ?_
  rintro e w' ⟨rfl, rfl⟩
  generalize low A 4 = far at *
  go_wp2_with fail
  go_loopw [7, 8] (fun m v wr => ∃ i : Nat, i ≤ far ∧ v = .int .i64 i ∧ wr.ownsRow (w.heap.size + 1) 3 1 m (List.replicate i (0 : Int)).length ((List.replicate i (0 : Int)).map iv) ∧ row? wr w.heap.size = some (ivs [0, 0, 0, 0]) ∧ Below w.heap.size w wr) (fun _ v _ => far - (intOf v).toNat)
  case atStart => exact ⟨0, by omega, rfl, World.ownsRow_nil _ _ _ _, by simp [go_sem], (Below.refl _ _).alloc (Nat.le_refl _) _⟩
  case round =>
    obtain ⟨i, hil, rfl, how, hr, hbw⟩ := hrel
    have HO := Lib.hid how
    have HR := Lib.hid hr
    have hsz := row?_lt hr
    clear how hr
    by_cases hlt : i < far
    · go_wp2_with (at_builtin; refine app_si2 rfl _ _ 22 rfl (w.heap.size + 1) 3 i0 Try.underlying22 hi hz0 hz1 hz2 _ (List.replicate i 0) rfl (HO.out.alloc _) wr.heap.size 1 [0] rfl ?hu ?hlen ?hbase ?_)
      case hu =>
        intro k hk
        obtain rfl : k = 0 := by simp at hk; omega
        exact cell_new _ _ _ _ rfl
      case hlen => simp; omega
      case hbase => simp; omega
      intro m' w2 hown2 hgrow2 hblk
      have HO2 := Lib.hid (show w2.ownsRow (w.heap.size + 1) 3 1 m' (List.replicate (i + 1) (0 : Int)).length ((List.replicate (i + 1) (0 : Int)).map iv) by rw [← zeros_next]; simpa using hown2)
      have HB2 := Lib.hid ((hbw.alloc hbw.size (.cells #[.int .i64 0] 3)).grown hgrow2 (by have := hbw.size; simp; omega) (fun k hk => by have := (HO.out.lt k hk).1; omega))
      have HR2 := Lib.hid (show row? w2 w.heap.size = some (ivs [0, 0, 0, 0]) from row_grown hgrow2 (by rw [row?_alloc_past _ _ _ hsz]; exact HR.out) (fun e => by have := (HO.out.lt _ e.symm).1; omega))
      clear hown2 hgrow2 hblk
      go_wp2_with fail
      go_roundw
      case rel => exact ⟨i + 1, by omega, by go_num, HO2.out, HR2.out, HB2.out⟩
      case measure => simp [intOf]; omega
    · obtain rfl : i = far := by omega
      go_wp2_with fail
      obtain ⟨L, hL⟩ : ∃ L, nl xs xs.length = L := ⟨_, rfl⟩
      have HL := Lib.hid hL
      have HLEN := Lib.hid (show L.length = xs.length by rw [← hL, nl_len])
      have HU0 : ivs [0, 0, 0, 0] = ivs (upF (q4 L 0) 4) := by simp [upF, q4, List.range_succ]
      rw [HU0] at HR
      clear hL HU0
      go_loopw [6, 7, 9] (fun r m v wi => ∃ n : Nat, n ≤ xs.length ∧ v = .int .i64 n ∧ wi.ownsRow (w.heap.size + 1) 3 1 r (nl xs n).length ((nl xs n).map iv) ∧ wi.ownsRow (w.heap.size + 1) 3 1 m (List.replicate i (0 : Int) ++ nl xs n).length ((List.replicate i (0 : Int) ++ nl xs n).map iv) ∧ apart r m ∧ row? wi w.heap.size = some (ivs (upF (q4 L n) 4)) ∧ Below w.heap.size w wi) (fun _ _ v _ => xs.length - (intOf v).toNat)
      case atStart => exact ⟨0, by omega, rfl, World.ownsRow_nil _ _ _ _, by simpa [nl] using HO.out, fun k hk => (by cases hk), HR.out, hbw⟩
      case round =>
        obtain ⟨n, hn, rfl, how, hom, hap, hr, hb2⟩ := hrel
        have HW := Lib.hid how
        have HM := Lib.hid hom
        have HAP := Lib.hid hap
        have HR2 := Lib.hid hr
        have hsz2 := row?_lt hr
        by_cases hlt : n < xs.length
        · obtain ⟨bx, off, rfl, hcell⟩ := hp (by omega)
          have c1 := below_cell hb2 (hcell n hlt) (cell_lt (hcell n hlt))
          have HC := Lib.hid hcell
          clear hcell how hom hap
          have hni : ni L n = sm (ni xs n) := by rw [← HL.out]; exact nl_ni xs _ n hlt
          have hq : q4 L (n + 1) = bump (q4 L n) (n % 4) (sm (ni xs n)) := by rw [← hni]; rfl
          have htg : tight (q4 L n) n := by rw [← HL.out]; exact nl_tight xs xs.length n (by omega)
          have hfk := htg (n % 4)
          have hy := sm_le (ni xs n)
          have hlow := low_lt (ni xs n) 2001 (by omega)
          have hnx := nl_next xs n
          have wy : wrap64 ((low (ni xs n) 2001 : Nat) - 1000 : Int) = sm (ni xs n) := IntWalk.wrap64_in _ (by omega)
          have HNX := Lib.hid hnx
          clear hnx hni htg hlow
          generalize ni xs n = x at *
          generalize hY : sm x = y at *
          have hset := upF_bump (q4 L n) (n % 4) y (by omega)
          rw [← hq] at hset
          have HSET := Lib.hid hset
          have c2 : wr.cell? ⟨w.heap.size, n % 4, none⟩ = some (.int .i64 (q4 L n (n % 4))) := (row?_cell hr (n % 4)).trans (by rw [ivs_getElem?, upF_len, if_pos (by omega), upF_ni _ _ (by omega)])
          have f2 := row?_frozen hr (n % 4)
          have w2 : wrap64 (q4 L n (n % 4) + y) = q4 L n (n % 4) + y := IntWalk.wrap64_in _ (by omega)
          clear hset hq hfk hr
          generalize q4 L n (n % 4) = fk at *
          go_wp2_with fail
          refine (low_any x 2001 (by omega) (by omega) _).mono ?_
          rintro e w' ⟨rfl, rfl⟩
          have hW1 : row? (wr.setCell ⟨w.heap.size, n % 4, none⟩ (.int .i64 (fk + y))) w.heap.size = some (ivs (upF (q4 L (n + 1)) 4)) := by rw [row?_setCell_eq HR2.out, ivs_set, HSET.out]
          have hb3 : Below w.heap.size w (wr.setCell ⟨w.heap.size, n % 4, none⟩ (.int .i64 (fk + y))) := hb2.setCell (by simp) _
          have ho3 := ownsRow_setCell_other HW.out (a := ⟨w.heap.size, n % 4, none⟩) (fun e => by have := (HW.out.lt _ e).1; simp at this; omega) (.int .i64 (fk + y))
          have hm3 := ownsRow_setCell_other HM.out (a := ⟨w.heap.size, n % 4, none⟩) (fun e => by have := (HM.out.lt _ e).1; simp at this; omega) (.int .i64 (fk + y))
          have HW1 := Lib.hid hW1
          have HB3 := Lib.hid hb3
          have HO3 := Lib.hid ho3
          have HM3 := Lib.hid hm3
          clear hW1 hb3 ho3 hm3
          go_wp2_with (at_builtin; refine Classical.byContradiction ?_)
          intro hh; apply hh; clear hh
          clear c1 c2 f2 w2
          refine app_si2 rfl _ _ 22 rfl (w.heap.size + 1) 3 i0 Try.underlying22 hi hz0 hz1 hz2 _ (nl xs n) rfl (HO3.out.alloc _) _ 1 [y] rfl ?hu ?hlen ?hbase ?_
          case hu =>
            intro k hk
            obtain rfl : k = 0 := by simp at hk; omega
            exact cell_new _ _ _ _ (by simp)
          case hlen => rw [nl_len]; simp; omega
          case hbase => simp; omega
          intro r' w2 hown2 hgrow2 hblk2
          have hR' : w2.ownsRow (w.heap.size + 1) 3 1 r' (nl xs (n + 1)).length ((nl xs (n + 1)).map iv) := by rw [← HNX.out]; simpa using hown2
          have hMb := fun k hk => (HM3.out.lt k hk).2
          have hM' : w2.ownsRow (w.heap.size + 1) 3 1 u7 (List.replicate i (0 : Int) ++ nl xs n).length ((List.replicate i (0 : Int) ++ nl xs n).map iv) := own_grown (HM3.out.alloc _) hgrow2 (fun k hk e => HAP.out k e.symm hk)
          have hap2 : apart r' u7 := fun k hk e => by
            rcases hblk2 with hb | hb
            · rw [hb] at hk; exact HAP.out k hk e
            · have h1 := hb k hk
              have h2 := hMb k e
              simp at h1 h2; omega
          have hb4 : Below w.heap.size w w2 := (HB3.out.alloc HB3.out.size (.cells #[.int .i64 y] 3)).grown hgrow2 (by have := HB3.out.size; simp at this ⊢; omega) (fun k hk => by have := (HW.out.lt k hk).1; omega)
          have hr4 : row? w2 w.heap.size = some (ivs (upF (q4 L (n + 1)) 4)) := row_grown hgrow2 (by rw [row?_alloc_past _ _ _ (row?_lt HW1.out)]; exact HW1.out) (fun e => by have := (HW.out.lt _ e.symm).1; omega)
          have HR' := Lib.hid hR'
          have HM' := Lib.hid hM'
          have HAP2 := Lib.hid hap2
          have HB4 := Lib.hid hb4
          have HR4 := Lib.hid hr4
          clear hown2 hgrow2 hblk2 hR' hM' hap2 hb4 hr4 hMb
          go_wp2_with (at_builtin; refine app_si2 rfl _ _ 22 rfl (w.heap.size + 1) 3 i0 Try.underlying22 hi hz0 hz1 hz2 _ (List.replicate i (0 : Int) ++ nl xs n) rfl (HM'.out.alloc _) w2.heap.size 1 [y] rfl ?hu2 ?hlen2 ?hbase2 ?_)
          case hu2 =>
            intro k hk
            obtain rfl : k = 0 := by simp at hk; omega
            exact cell_new _ _ _ _ rfl
          case hlen2 => rw [List.length_append, nl_len]; simp; omega
          case hbase2 => have := HB4.out.size; have := row?_lt HR4.out; simp; omega
          intro m' w3 hown3 hgrow3 hblk3
          have hM3 : w3.ownsRow (w.heap.size + 1) 3 1 m' (List.replicate i (0 : Int) ++ nl xs (n + 1)).length ((List.replicate i (0 : Int) ++ nl xs (n + 1)).map iv) := by rw [← HNX.out]; simpa using hown3
          have hR3 : w3.ownsRow (w.heap.size + 1) 3 1 r' (nl xs (n + 1)).length ((nl xs (n + 1)).map iv) := own_grown (HR'.out.alloc _) hgrow3 (fun k hk e => HAP2.out k hk e.symm)
          have hap3 : apart r' m' := fun k hk e => by
            rcases hblk3 with hb | hb
            · rw [hb] at e; exact HAP2.out k hk e
            · have h1 := hb k e
              have h2 := (HR'.out.lt k hk).2
              first | omega | (simp at h1; omega)
          have hb5 : Below w.heap.size w w3 := (HB4.out.alloc HB4.out.size (.cells #[.int .i64 y] 3)).grown hgrow3 (by have := HB4.out.size; simp; omega) (fun k hk => by have := (HM'.out.lt k hk).1; omega)
          have hr5 : row? w3 w.heap.size = some (ivs (upF (q4 L (n + 1)) 4)) := row_grown hgrow3 (by rw [row?_alloc_past _ _ _ (row?_lt HR4.out)]; exact HR4.out) (fun e => by have := (HM'.out.lt _ e.symm).1; omega)
          have HR3 := Lib.hid hR3
          have HM3' := Lib.hid hM3
          have HAP3 := Lib.hid hap3
          have HB5 := Lib.hid hb5
          have HR5 := Lib.hid hr5
          clear hown3 hgrow3 hblk3 hR3 hM3 hap3 hb5 hr5
          go_wp2_with fail
          go_roundw
          case rel => exact ⟨n + 1, by omega, by go_num, HR3.out, HM3'.out, HAP3.out, HR5.out, HB5.out⟩
          case measure => simp [intOf]; omega
        · obtain rfl : n = xs.length := by omega
          clear how hom hap hr
          have hlen4 := upF_len (q4 L xs.length) 4
          have x0 : row? wr.drew w.heap.size = some (ivs (upF (q4 L xs.length) 4)) := HR2.out
          have zb : Below w.heap.size w wr.drew := hb2.drew
          have HSR : Si wr.drew u6 (nl xs xs.length) := Own.si HW.out
          have HSM : Si wr.drew u7 (List.replicate i (0 : Int) ++ nl xs xs.length) := Own.si HM.out
          have HSF : Si wr.drew (.slice (some ⟨w.heap.size, 0, none⟩) 4 4) (upF (q4 L xs.length) 4) := by
            have := Si.row (w := wr.drew) x0
            rwa [hlen4] at this
          go_wp2_with fail
          refine Rg.wp_region_flo [(0, 3), (2, 3), (4, 3)] [
              ⟨1, 59, [], false, fun v _ => ∃ z, v = .agg (zv z) ∧ FlZ z (fN (nl xs xs.length))⟩,
              ⟨3, 61, [1], false, fun v _ => ∃ z, v = .agg (zv z) ∧ FlZ z (fN (upF (q4 L xs.length) 4))⟩,
              ⟨5, 63, [3], false, fun v _ => ∃ z, v = .agg (zv z) ∧ FlZ z (fN (List.replicate i (0 : Int) ++ nl xs xs.length))⟩,
              ⟨6, 11, [], true, fun v w' => ∃ B, v = .pointer (some ⟨B, 0, none⟩) ∧ row? w' B = some (zv fun _ => (0, 0))⟩,
              ⟨7, 12, [], true, fun v w' => ∃ B, v = .pointer (some ⟨B, 0, none⟩) ∧ row? w' B = some (zv fun _ => (0, 0))⟩,
              ⟨8, 13, [], true, fun v w' => ∃ B, v = .pointer (some ⟨B, 0, none⟩) ∧ row? w' B = some (zv fun _ => (0, 0))⟩] [(1, 59, []), (3, 61, [1]), (5, 63, [3]), (6, 11, []), (7, 12, []), (8, 13, [])] [9, 10, 11] (by kernel_rfl) (by kernel_rfl) rfl ?_
          simp only [Rg.row, Rg.PT.map, List.getD_cons_zero, List.getD_cons_succ]
          go_wp2_with (first
            | ((with_reducible refine Rg.plan_pure ?_ ?_ ?_); kernel_rfl; kernel_rfl; intro _ _)
            | ((with_reducible refine Rg.plan_take ?_ ?_ ?_); kernel_rfl; kernel_rfl; intro _ _)
            | ((with_reducible refine Rg.plan_keep ?_ ?_); kernel_rfl; intro K hK)
            | (refine hK _ _ (Rg.Keep.refl _) ?_; clear hK)
            | (refine hK _ _ (Rg.Keep.of_below (by assumption)) ?_; clear hK)
            | ((with_reducible refine Rg.plan_skip ?_ ?_); kernel_rfl)
            | (with_reducible refine Rg.plan_done ?_)
            | (with_reducible refine Rg.calm_normal ?_))
          refine Rg.phase_done (Rg.Phase.mk ?_ ?_ ?_)
          · refine List.forall_mem_cons.2 ⟨?_, List.forall_mem_cons.2 ⟨?_, List.forall_mem_cons.2 ⟨?_, List.forall_mem_cons.2 ⟨?_, List.forall_mem_cons.2 ⟨?_, List.forall_mem_cons.2 ⟨?_, fun r hr => (by cases hr)⟩⟩⟩⟩⟩⟩
            · exact fun v w1 w2 _ h => h
            · exact fun v w1 w2 _ h => h
            · exact fun v w1 w2 _ h => h
            · rintro v w1 w2 hb ⟨B, e, h⟩; exact ⟨B, e, Rg.stable_row hb h⟩
            · rintro v w1 w2 hb ⟨B, e, h⟩; exact ⟨B, e, Rg.stable_row hb h⟩
            · rintro v w1 w2 hb ⟨B, e, h⟩; exact ⟨B, e, Rg.stable_row hb h⟩
          · refine List.forall_mem_cons.2 ⟨?_, List.forall_mem_cons.2 ⟨?_, List.forall_mem_cons.2 ⟨?_, List.forall_mem_cons.2 ⟨?_, List.forall_mem_cons.2 ⟨?_, List.forall_mem_cons.2 ⟨?_, fun r hr => (by cases hr)⟩⟩⟩⟩⟩⟩
            · intro us wx hbx hdep K hK
              refine Rg.exec_call (args := #[u6]) (by simp [go_sem, execOp, Rg.puts]) (sums_all (nl xs xs.length) (by rw [nl_len]; omega) _ wx (HSR.below hbx)) ?_
              rintro e wy ⟨z, rfl, hz, hy⟩
              exact ⟨_, rfl, hK _ _ _ rfl ⟨z, rfl, hz⟩ hy (fun h => (by cases h))⟩
            · intro us wx hbx hdep K hK
              refine Rg.exec_call (args := #[.slice (some ⟨w.heap.size, 0, none⟩) 4 4]) (by simp [go_sem, execOp, Rg.puts]) (sums_all (upF (q4 L xs.length) 4) (by omega) _ wx (HSF.below hbx)) ?_
              rintro e wy ⟨z, rfl, hz, hy⟩
              exact ⟨_, rfl, hK _ _ _ rfl ⟨z, rfl, hz⟩ hy (fun h => (by cases h))⟩
            · intro us wx hbx hdep K hK
              refine Rg.exec_call (args := #[u7]) (by simp [go_sem, execOp, Rg.puts]) (sums_all (List.replicate i (0 : Int) ++ nl xs xs.length) (by rw [List.length_append, nl_len, List.length_replicate]; omega) _ wx (HSM.below hbx)) ?_
              rintro e wy ⟨z, rfl, hz, hy⟩
              exact ⟨_, rfl, hK _ _ _ rfl ⟨z, rfl, hz⟩ hy (fun h => (by cases h))⟩
            · intro us wx hbx hdep K hK
              exact Rg.exec_value (by simp [go_sem, execOp]; rfl) (hK _ _ _ rfl ⟨_, rfl, row?_alloc_at _ _ _ _ rfl⟩ ((Below.refl _ _).alloc (Nat.le_refl _) _) (fun _ => ⟨Nat.le_refl _, by simp [Rg.vblk]⟩))
            · intro us wx hbx hdep K hK
              exact Rg.exec_value (by simp [go_sem, execOp]; rfl) (hK _ _ _ rfl ⟨_, rfl, row?_alloc_at _ _ _ _ rfl⟩ ((Below.refl _ _).alloc (Nat.le_refl _) _) (fun _ => ⟨Nat.le_refl _, by simp [Rg.vblk]⟩))
            · intro us wx hbx hdep K hK
              exact Rg.exec_value (by simp [go_sem, execOp]; rfl) (hK _ _ _ rfl ⟨_, rfl, row?_alloc_at _ _ _ _ rfl⟩ ((Below.refl _ _).alloc (Nat.le_refl _) _) (fun _ => ⟨Nat.le_refl _, by simp [Rg.vblk]⟩))
          · intro us wZ hbZ hJ hfr hne
            have hne0 : Rg.vblk (us 6) ≠ Rg.vblk (us 7) := hne _ (List.getElem_mem (n := 3) (by simp)) _ (List.getElem_mem (n := 4) (by simp)) (by simp) rfl rfl
            have hne1 : Rg.vblk (us 6) ≠ Rg.vblk (us 8) := hne _ (List.getElem_mem (n := 3) (by simp)) _ (List.getElem_mem (n := 5) (by simp)) (by simp) rfl rfl
            have hne2 : Rg.vblk (us 7) ≠ Rg.vblk (us 8) := hne _ (List.getElem_mem (n := 4) (by simp)) _ (List.getElem_mem (n := 5) (by simp)) (by simp) rfl rfl
            have hfr0 : wr.drew.heap.size ≤ Rg.vblk (us 6) := (hfr _ (List.getElem_mem (n := 3) (by simp)) rfl).1
            have hfr1 : wr.drew.heap.size ≤ Rg.vblk (us 7) := (hfr _ (List.getElem_mem (n := 4) (by simp)) rfl).1
            have hfr2 : wr.drew.heap.size ≤ Rg.vblk (us 8) := (hfr _ (List.getElem_mem (n := 5) (by simp)) rfl).1
            simp only [List.forall_mem_cons] at hJ
            obtain ⟨⟨za, e1, fza⟩, ⟨zb', e3, fzb⟩, ⟨zc, e5, fzc⟩, ⟨B1, e6, r1⟩, ⟨B2, e7, r2⟩, ⟨B3, e8, r3⟩, -⟩ := hJ
            simp only [e6, e7, e8, Rg.vblk] at hne0 hne1 hne2 hfr0 hfr1 hfr2
            simp at hfr0 hfr1 hfr2
            have y0 := Rg.stable_row hbZ x0
            have zb2 : Below w.heap.size w wZ := zb.trans (hbZ.mono zb.size)
            simp only [Rg.puts, List.map_cons, List.map_nil, List.getD_cons_zero, List.getD_cons_succ]
            simp only [e1, e3, e5, e6, e7, e8]
            have hsz3 := zb.size
            simp at hsz3
            have ya : row? (((wZ.setRow B1 (zv za)).setRow B2 (zv zb')).setRow B3 (zv zc)) B1 = some (zv za) := by rw [row?_setRow_ne _ _ _ _ (by omega), row?_setRow_ne _ _ _ _ (by omega)]; exact row?_setRow_eq r1
            have r2' : row? (wZ.setRow B1 (zv za)) B2 = some (zv fun _ => (0, 0)) := by rw [row?_setRow_ne _ _ _ _ (by omega)]; exact r2
            have yb : row? (((wZ.setRow B1 (zv za)).setRow B2 (zv zb')).setRow B3 (zv zc)) B2 = some (zv zb') := by rw [row?_setRow_ne _ _ _ _ (by omega)]; exact row?_setRow_eq r2'
            have r3' : row? ((wZ.setRow B1 (zv za)).setRow B2 (zv zb')) B3 = some (zv fun _ => (0, 0)) := by rw [row?_setRow_ne _ _ _ _ (by omega), row?_setRow_ne _ _ _ _ (by omega)]; exact r3
            have yc : row? (((wZ.setRow B1 (zv za)).setRow B2 (zv zb')).setRow B3 (zv zc)) B3 = some (zv zc) := row?_setRow_eq r3'
            have yf : row? (((wZ.setRow B1 (zv za)).setRow B2 (zv zb')).setRow B3 (zv zc)) w.heap.size = some (ivs (upF (q4 L xs.length) 4)) := by rw [row?_setRow_ne _ _ _ _ (by omega), row?_setRow_ne _ _ _ _ (by omega), row?_setRow_ne _ _ _ _ (by omega)]; exact y0
            have yB := below_setRow (below_setRow (below_setRow zb2 (by omega : w.heap.size ≤ B1) (zv za)) (by omega : w.heap.size ≤ B2) (zv zb')) (by omega : w.heap.size ≤ B3) (zv zc)
            have YA := Lib.hid ya
            have YB := Lib.hid yb
            have YC := Lib.hid yc
            have YF := Lib.hid yf
            have YW := Lib.hid yB
            have FZA := Lib.hid fza
            have FZB := Lib.hid fzb
            have FZC := Lib.hid fzc
            clear ya yb yc yf yB fza fzb fzc e1 e3 e5 e6 e7 e8 hne hfr x0 y0 zb zb2
            go_wp2_with (first
              | ((with_reducible refine Rg.plan_pure ?_ ?_ ?_); kernel_rfl; kernel_rfl; intro _ _)
              | ((with_reducible refine Rg.plan_take ?_ ?_ ?_); kernel_rfl; kernel_rfl; intro _ _)
              | ((with_reducible refine Rg.plan_keep ?_ ?_); kernel_rfl; intro K hK)
              | (refine hK _ _ (Rg.Keep.refl _) ?_; clear hK)
              | (refine hK _ _ (Rg.Keep.of_below (by assumption)) ?_; clear hK)
              | ((with_reducible refine Rg.plan_skip ?_ ?_); kernel_rfl)
              | (with_reducible refine Rg.plan_done ?_)
              | (with_reducible refine Rg.calm_normal ?_))
            have hLok : okN L := by rw [← HL.out]; exact nl_ok _ _
            have htg : tight (q4 L xs.length) xs.length := by rw [← HL.out]; exact nl_tight xs xs.length xs.length (Nat.le_refl _)
            have hFA := FZA.out
            rw [HL.out, fN_ok hLok, HLEN.out] at hFA
            have hFC := FZC.out
            rw [HL.out, fN_ok (zeros_ok hLok i), List.length_append, List.length_replicate, HLEN.out] at hFC
            have hok4 : okN (upF (q4 L xs.length) 4) := fun j hj => by
              rw [hlen4] at hj
              rw [upF_ni _ _ hj]
              have := htg j
              omega
            have hFB : FlZ zb' (q4 L xs.length) := fun k hk => by
              have := FZB.out k hk
              rw [fN_ok hok4, hlen4] at this
              rw [re_congr (fun j hj => (q4_upF (q4 L xs.length) j hj).symm) k, im_congr (fun j hj => (q4_upF (q4 L xs.length) j hj).symm) k]
              exact this
            have hPW := fun k hk => pow_zeros L xs.length k hk i
            have hf20 : ∀ j, (q4 L xs.length j).natAbs ≤ 1048576 := fun j => by have := htg j; omega
            have HFA := Lib.hid hFA
            have HFB := Lib.hid hFB
            have HFC := Lib.hid hFC
            have HPW := Lib.hid hPW
            have HF20 := Lib.hid hf20
            clear hFA hFB hFC hPW hok4 hLok htg hf20
            generalize q4 L xs.length = f at *
            generalize q4 (List.replicate i 0 ++ L) (i + xs.length) = g at *
            go_loopw [14] (fun v wi => ∃ k : Nat, k ≤ 4 ∧ v = .int .i64 k ∧ row? wi B1 = some (zv za) ∧ row? wi B2 = some (zv zb') ∧ row? wi B3 = some (zv zc) ∧ row? wi w.heap.size = some (ivs (upF f 4)) ∧ Below w.heap.size w wi) (fun v _ => 4 - (intOf v).toNat)
            case atStart => exact ⟨0, by omega, rfl, YA.out, YB.out, YC.out, YF.out, YW.out⟩
            case round =>
              obtain ⟨k, hk, rfl, ra, rb, rc, rf, hbk⟩ := hrel
              by_cases hlt4 : k < 4
              · have ca := (row?_cell ra k).trans (zv_get za k hlt4)
                have cb := (row?_cell rb k).trans (zv_get zb' k hlt4)
                have cc := (row?_cell rc k).trans (zv_get zc k hlt4)
                obtain ⟨a1, a2⟩ := HFA.out k hlt4
                obtain ⟨b1, b2⟩ := HFB.out k hlt4
                obtain ⟨d1, d2⟩ := HFC.out k hlt4
                have o1 := order_eq a1 b1
                have o2 := order_eq a2 b2
                have hpp := HPW.out k hlt4
                have RA := Lib.hid ra
                have RB := Lib.hid rb
                have RC := Lib.hid rc
                have RF := Lib.hid rf
                have A1 := Lib.hid a1
                have A2 := Lib.hid a2
                have D1 := Lib.hid d1
                have D2 := Lib.hid d2
                have HPP := Lib.hid hpp
                clear ra rb rc rf a1 a2 b1 b2 d1 d2 hpp
                go_wp2_with fail
                refine Rg.wp_region_plan (Rg.row [(0, 3), (1, 3), (2, 0), (3, 3), (4, 3), (5, 0), (6, 1), (7, 3), (8, 3), (9, 3), (10, 0), (12, 3), (13, 3), (14, 0), (11, 1), (15, 1), (16, 3), (17, 3)] []) [] (by kernel_rfl) (by kernel_rfl) ?_
                simp only [Rg.row, Rg.PT.map, List.map_nil, List.getD_cons_zero, List.getD_cons_succ]
                go_wp2_with (first
                  | ((with_reducible refine Rg.plan_pure ?_ ?_ ?_); kernel_rfl; kernel_rfl; intro _ _)
                  | ((with_reducible refine Rg.plan_take ?_ ?_ ?_); kernel_rfl; kernel_rfl; intro _ _)
                  | ((with_reducible refine Rg.plan_keep ?_ ?_); kernel_rfl; intro K hK)
                  | (refine hK _ _ (Rg.Keep.refl _) ?_; clear hK)
                  | (refine hK _ _ (Rg.Keep.of_below (by assumption)) ?_; clear hK)
                  | ((with_reducible refine Rg.plan_skip ?_ ?_); kernel_rfl)
                  | (with_reducible refine Rg.plan_done ?_)
                  | (with_reducible refine Rg.calm_normal ?_))
                refine hK _ _ (Rg.Keep.refl _) ?_
                clear hK
                go_wp2_with (first
                  | ((with_reducible refine Rg.plan_pure ?_ ?_ ?_); kernel_rfl; kernel_rfl; intro _ _)
                  | ((with_reducible refine Rg.plan_take ?_ ?_ ?_); kernel_rfl; kernel_rfl; intro _ _)
                  | ((with_reducible refine Rg.plan_keep ?_ ?_); kernel_rfl; intro K hK)
                  | (refine hK _ _ (Rg.Keep.refl _) ?_; clear hK)
                  | (refine hK _ _ (Rg.Keep.of_below (by assumption)) ?_; clear hK)
                  | ((with_reducible refine Rg.plan_skip ?_ ?_); kernel_rfl)
                  | (with_reducible refine Rg.plan_done ?_)
                  | (with_reducible refine Rg.calm_normal ?_))
                refine (power_any A1.out A2.out _).mono ?_
                rintro e w4 ⟨rfl, rfl⟩
                dsimp only
                refine hK _ _ (Rg.Keep.refl _) ?_
                clear hK
                go_wp2_with (first
                  | ((with_reducible refine Rg.plan_pure ?_ ?_ ?_); kernel_rfl; kernel_rfl; intro _ _)
                  | ((with_reducible refine Rg.plan_take ?_ ?_ ?_); kernel_rfl; kernel_rfl; intro _ _)
                  | ((with_reducible refine Rg.plan_keep ?_ ?_); kernel_rfl; intro K hK)
                  | (refine hK _ _ (Rg.Keep.refl _) ?_; clear hK)
                  | (refine hK _ _ (Rg.Keep.of_below (by assumption)) ?_; clear hK)
                  | ((with_reducible refine Rg.plan_skip ?_ ?_); kernel_rfl)
                  | (with_reducible refine Rg.plan_done ?_)
                  | (with_reducible refine Rg.calm_normal ?_))
                refine (power_any D1.out D2.out _).mono ?_
                rw [HPP.out]
                rintro e w4 ⟨rfl, rfl⟩
                dsimp only
                refine hK _ _ (Rg.Keep.refl _) ?_
                clear hK
                go_wp2_with (first
                  | ((with_reducible refine Rg.plan_pure ?_ ?_ ?_); kernel_rfl; kernel_rfl; intro _ _)
                  | ((with_reducible refine Rg.plan_take ?_ ?_ ?_); kernel_rfl; kernel_rfl; intro _ _)
                  | ((with_reducible refine Rg.plan_keep ?_ ?_); kernel_rfl; intro K hK)
                  | (refine hK _ _ (Rg.Keep.refl _) ?_; clear hK)
                  | (refine hK _ _ (Rg.Keep.of_below (by assumption)) ?_; clear hK)
                  | ((with_reducible refine Rg.plan_skip ?_ ?_); kernel_rfl)
                  | (with_reducible refine Rg.plan_done ?_)
                  | (with_reducible refine Rg.calm_normal ?_))
                go_roundw
                case rel => exact ⟨k + 1, by omega, by go_num, RA.out, RB.out, RC.out, RF.out, hbk.drew⟩
                case measure => simp [intOf]; omega
              · obtain rfl : k = 4 := by omega
                have RF := Lib.hid rf
                have ldz := rldZ wr.drew B1 (by rw [row?_drew, ra]; rfl)
                rw [row?_drew, ra] at ldz
                have ldi := rldI wr.drew w.heap.size (by rw [row?_drew, rf]; rfl)
                rw [row?_drew, rf] at ldi
                clear ra rb rc rf
                go_wp2_with fail
                refine Rg.wp_region_plan (Rg.row [(0, 0), (2, 0), (1, 1), (3, 1), (4, 3), (5, 1), (6, 3), (7, 3)] []) [] (by kernel_rfl) (by kernel_rfl) ?_
                simp only [Rg.row, Rg.PT.map, List.map_nil, List.getD_cons_zero, List.getD_cons_succ]
                go_wp2_with (first
                  | ((with_reducible refine Rg.plan_pure ?_ ?_ ?_); kernel_rfl; kernel_rfl; intro _ _)
                  | ((with_reducible refine Rg.plan_take ?_ ?_ ?_); kernel_rfl; kernel_rfl; intro _ _)
                  | ((with_reducible refine Rg.plan_keep ?_ ?_); kernel_rfl; intro K hK)
                  | (refine hK _ _ (Rg.Keep.refl _) ?_; clear hK)
                  | (refine hK _ _ (Rg.Keep.of_below (by assumption)) ?_; clear hK)
                  | ((with_reducible refine Rg.plan_skip ?_ ?_); kernel_rfl)
                  | (with_reducible refine Rg.plan_done ?_)
                  | (with_reducible refine Rg.calm_normal ?_))
                refine (back_any za f HFA.out HF20.out _).mono ?_
                rintro e w5 ⟨rfl, hb5⟩
                have HB5 := Lib.hid (hbk.drew.trans (hb5.mono (by have := hbk.size; simpa using this)))
                have HB5' := Lib.hid hb5
                have heq : ∀ W : World, (Op.equalIn 10000 39 (.agg (ivs (upF f 4))) (.agg (ivs (upF f 4)))).run Try.prog W = .ok true W := fun W => by
                  have := eqI (upF f 4) (upF f 4) (upF_len f 4) (upF_len f 4) W
                  rwa [beq_self_eq_true] at this
                clear hb5 ldz ldi
                dsimp only
                refine hK _ _ (Rg.Keep.of_below HB5'.out) ?_
                clear hK
                go_wp2_with (first
                  | ((with_reducible refine Rg.plan_pure ?_ ?_ ?_); kernel_rfl; kernel_rfl; intro _ _)
                  | ((with_reducible refine Rg.plan_take ?_ ?_ ?_); kernel_rfl; kernel_rfl; intro _ _)
                  | ((with_reducible refine Rg.plan_keep ?_ ?_); kernel_rfl; intro K hK)
                  | (refine hK _ _ (Rg.Keep.refl _) ?_; clear hK)
                  | (refine hK _ _ (Rg.Keep.of_below (by assumption)) ?_; clear hK)
                  | ((with_reducible refine Rg.plan_skip ?_ ?_); kernel_rfl)
                  | (with_reducible refine Rg.plan_done ?_)
                  | (with_reducible refine Rg.calm_normal ?_))
                refine hK _ _ (Rg.Keep.refl _) ?_
                clear hK
                go_wp2_with (first
                  | ((with_reducible refine Rg.plan_pure ?_ ?_ ?_); kernel_rfl; kernel_rfl; intro _ _)
                  | ((with_reducible refine Rg.plan_take ?_ ?_ ?_); kernel_rfl; kernel_rfl; intro _ _)
                  | ((with_reducible refine Rg.plan_keep ?_ ?_); kernel_rfl; intro K hK)
                  | (refine hK _ _ (Rg.Keep.refl _) ?_; clear hK)
                  | (refine hK _ _ (Rg.Keep.of_below (by assumption)) ?_; clear hK)
                  | ((with_reducible refine Rg.plan_skip ?_ ?_); kernel_rfl)
                  | (with_reducible refine Rg.plan_done ?_)
                  | (with_reducible refine Rg.calm_normal ?_))
                refine (awake_any _).mono ?_
                rintro e w8 ⟨rfl, hb8⟩
                have HB8 := Lib.hid (HB5.out.trans (hb8.mono HB5.out.size))
                have HB8' := Lib.hid hb8
                clear hb8
                dsimp only
                refine hK _ _ (Rg.Keep.of_below HB8'.out) ?_
                clear hK
                go_wp2_with (first
                  | ((with_reducible refine Rg.plan_pure ?_ ?_ ?_); kernel_rfl; kernel_rfl; intro _ _)
                  | ((with_reducible refine Rg.plan_take ?_ ?_ ?_); kernel_rfl; kernel_rfl; intro _ _)
                  | ((with_reducible refine Rg.plan_keep ?_ ?_); kernel_rfl; intro K hK)
                  | (refine hK _ _ (Rg.Keep.refl _) ?_; clear hK)
                  | (refine hK _ _ (Rg.Keep.of_below (by assumption)) ?_; clear hK)
                  | ((with_reducible refine Rg.plan_skip ?_ ?_); kernel_rfl)
                  | (with_reducible refine Rg.plan_done ?_)
                  | (with_reducible refine Rg.calm_normal ?_))
                go_ret
                exact ⟨rfl, HB8.out⟩
end Go.Proofs.Ytenoldpfclmedaa
