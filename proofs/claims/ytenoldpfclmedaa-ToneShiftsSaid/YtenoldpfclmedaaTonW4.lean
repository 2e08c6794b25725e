/- The walks of SameInts, of package tone's Row. -/
import Derived.Test.YtenoldpfclmedaaLibI
import Derived.Test.YtenoldpfclmedaaLow
namespace Tone
open Go Go.Rw
end Tone
namespace Go.Proofs.Ytenoldpfclmedaa
open Go.RowKit Go.Rw Tone
theorem extI {a b : List Int} (hl : a.length = b.length) (h : ∀ i, i < a.length → ni a i = ni b i) : a = b := by
  apply List.ext_getElem hl
  intro i h1 h2
  have := h i h1
  simpa [ni, h1, h2] using this
set_option maxHeartbeats 1000000 in
theorem sameI_any (a b : List Int) (ha : a.length ≤ 1000000) (va vb : Value) (w : World) (hsa : Si w va a) (hsb : Si w vb b) :
    Calls Try.prog 17 #[va, vb] w fun e w' => e = .returned (.bool (decide (a = b))) ∧ Below w.heap.size w w' := by
  obtain ⟨ao, cap, rfl, hc, hnn, hp⟩ := hsa
  obtain ⟨ao2, cap2, rfl, hc2, hnn2, hp2⟩ := hsb
  by_cases hl : a.length = b.length
  · go_enter Try.func17, Try.ntmps17
    rw [← hl]
    rw [← hl] at hp2
    have hab : ∀ k, k < a.length → ni a k ≠ ni b k → a ≠ b := fun k _ h e => h (by rw [e])
    go_wp2_with fail
    go_loopw [5] (fun v wr => ∃ k : Nat, k ≤ a.length ∧ v = .int .i64 k ∧ (∀ j, j < k → ni a j = ni b j) ∧ Below w.heap.size w wr) (fun v _ => a.length - (intOf v).toNat)
    case atStart => exact ⟨0, by omega, rfl, fun j hj => by omega, Below.refl _ _⟩
    case round =>
      obtain ⟨k, hk, rfl, he, hb⟩ := hrel
      have HE := Lib.hid he
      clear he
      by_cases hlt : k < a.length
      · obtain ⟨b1, off1, rfl, hcell1⟩ := hp (by omega)
        obtain ⟨b2, off2, rfl, hcell2⟩ := hp2 (by omega)
        have c1 := below_cell hb (hcell1 k hlt) (cell_lt (hcell1 k hlt))
        have c2 := below_cell hb (hcell2 k hlt) (cell_lt (hcell2 k hlt))
        have HC1 := Lib.hid hcell1
        have HC2 := Lib.hid hcell2
        have HAB := Lib.hid hab
        have HL := Lib.hid hl
        clear hcell1 hcell2 hab hl
        cases hne : (ni a k != ni b k)
        · go_wp2_with fail
          refine Rg.wp_region_plan (Rg.row [(0, 3), (1, 3), (2, 3), (3, 0), (4, 3), (5, 3), (6, 3), (7, 0), (8, 3)] []) [] (by kernel_rfl) (by kernel_rfl) ?_
          simp only [Rg.row, Rg.PT.map, List.map_nil, List.getD_cons_zero, List.getD_cons_succ]
          go_wp2_with (first
            | ((with_reducible refine Rg.plan_pure ?_ ?_ ?_); kernel_rfl; kernel_rfl; intro _ _)
            | ((with_reducible refine Rg.plan_take ?_ ?_ ?_); kernel_rfl; kernel_rfl; intro _ _)
            | ((with_reducible refine Rg.plan_keep ?_ ?_); kernel_rfl; intro K hK)
            | (refine hK _ _ (Rg.Keep.refl _) ?_; clear hK)
            | (refine hK _ _ (Rg.Keep.of_below (by assumption)) ?_; clear hK)
            | ((with_reducible refine Rg.plan_skip ?_ ?_); kernel_rfl)
            | (with_reducible refine Rg.plan_done ?_)
            | (with_reducible refine Rg.calm_normal ?_))
          go_roundw
          case rel =>
            refine ⟨k + 1, by omega, by go_num, fun j hj => ?_, hb.drew⟩
            rcases Nat.lt_or_ge j k with h | h
            · exact HE.out j h
            · rw [show j = k by omega]; simpa using hne
          case measure => simp [intOf]; omega
        · have hd : decide (a = b) = false := decide_eq_false (HAB.out k hlt (by simpa using hne))
          have HD := Lib.hid hd
          clear hd
          go_wp2_with fail
          refine Rg.wp_region_plan (Rg.row [(0, 3), (1, 3), (2, 3), (3, 0), (4, 3), (5, 3), (6, 3), (7, 0), (8, 3)] []) [] (by kernel_rfl) (by kernel_rfl) ?_
          simp only [Rg.row, Rg.PT.map, List.map_nil, List.getD_cons_zero, List.getD_cons_succ]
          go_wp2_with (first
            | ((with_reducible refine Rg.plan_pure ?_ ?_ ?_); kernel_rfl; kernel_rfl; intro _ _)
            | ((with_reducible refine Rg.plan_take ?_ ?_ ?_); kernel_rfl; kernel_rfl; intro _ _)
            | ((with_reducible refine Rg.plan_keep ?_ ?_); kernel_rfl; intro K hK)
            | (refine hK _ _ (Rg.Keep.refl _) ?_; clear hK)
            | (refine hK _ _ (Rg.Keep.of_below (by assumption)) ?_; clear hK)
            | ((with_reducible refine Rg.plan_skip ?_ ?_); kernel_rfl)
            | (with_reducible refine Rg.plan_done ?_)
            | (with_reducible refine Rg.calm_normal ?_))
          go_ret
          exact ⟨by rw [HD.out]; rfl, hb.drew⟩
      · have hd : decide (a = b) = true := decide_eq_true (extI hl fun i hi => HE.out i (by omega))
        have HD := Lib.hid hd
        clear hd
        go_wp2_with fail
        go_ret
        exact ⟨by rw [HD.out]; rfl, hb⟩
  · have hd : decide (a = b) = false := decide_eq_false (fun e => hl (by rw [e]))
    have HD := Lib.hid hd
    have hl2 : ((a.length : Int) == (b.length : Int)) = false := by simpa using fun e : (a.length : Int) = b.length => hl (by omega)
    clear hd
    go_enter Try.func17, Try.ntmps17
    go_wp2_with fail
    go_ret
    exact ⟨by rw [HD.out]; rfl, Below.refl _ _⟩
theorem infoI : (Try.prog.info? 3).map (fun i => (i.zero, i.size, i.bytes)) = some (some (.int .i64 0), 1, 8) := by kernel_rfl
theorem made_ints (n : Nat) : madeCells #[Value.int .i64 0] n = ivs (List.replicate n 0) := by
  apply Array.toList_inj.1
  rw [toList_madeCells_one]; simp [ivs, iv]
theorem mk_ints (n : Nat) (h : n ≤ 1000000) (w : World) : (Instr.makeSlice 22 (.int .i64 (n : Nat)) (.int .i64 (n : Nat))).run Try.prog w = .ok (.slice (some ⟨w.heap.size, 0, none⟩) n n) (w.alloc (.cells (ivs (List.replicate n 0)) 3)) := by
  obtain ⟨i0, hi, hz0, hz1, hz2⟩ := info_parts infoI
  rw [run_make w _ _ i0 _ Try.underlying22 hi hz0 .i64 .i64 (n : Nat) (n : Nat) (by omega) (by omega) (by rw [hz2]; omega) (by omega)]
  rw [hz1, Nat.mul_one]
  simp only [Int.toNat_natCast]
  rw [← made_ints]; rfl
/-- how often each tick stands there, after n ticks -/
def rwN (l : List Int) (fr to : Int) (m : Nat) : Nat → List Int
  | 0 => List.replicate m 0
  | n + 1 => if fr ≤ ni l n ∧ ni l n < to then (rwN l fr to m n).set (ni l n - fr).toNat (ni (rwN l fr to m n) (ni l n - fr).toNat + 1) else rwN l fr to m n
theorem rwN_len (l : List Int) (fr to : Int) (m : Nat) : ∀ n, (rwN l fr to m n).length = m
  | 0 => by simp [rwN]
  | n + 1 => by
    simp only [rwN]
    split
    · rw [List.length_set, rwN_len l fr to m n]
    · exact rwN_len l fr to m n
theorem rwN_le (l : List Int) (fr to : Int) (m : Nat) : ∀ n j, 0 ≤ ni (rwN l fr to m n) j ∧ ni (rwN l fr to m n) j ≤ n
  | 0, j => by
    simp only [rwN, ni, List.getElem?_replicate]
    split <;> simp
  | n + 1, j => by
    have ih := rwN_le l fr to m n
    simp only [rwN]
    split
    · by_cases h : (ni l n - fr).toNat < m
      · rw [ni_set _ _ _ _ (by rw [rwN_len]; exact h)]
        split
        · have := ih (ni l n - fr).toNat; omega
        · have := ih j; omega
      · rw [List.set_eq_of_length_le (by rw [rwN_len]; omega)]
        have := ih j; omega
    · have := ih j; omega
def rowL (l : List Int) (fr to : Int) : List Int := if fr < to ∧ to - fr ≤ 65536 then rwN l fr to (to - fr).toNat l.length else []
def i64B (x : Int) : Prop := -9223372036854775808 ≤ x ∧ x ≤ 9223372036854775807
theorem u64_dist {fr to : Int} (h1 : i64B fr) (h2 : i64B to) (h : fr ≤ to) : ∃ u v : Nat, IntKind.u64.wrap to = (u : Int) ∧ IntKind.u64.wrap fr = (v : Int) ∧ IntKind.u64.wrap ((u : Int) - (v : Int)) = to - fr := by
  have e1 := (u64_nonneg to).1
  have e2 := (u64_nonneg fr).1
  refine ⟨(IntKind.u64.wrap to).toNat, (IntKind.u64.wrap fr).toNat, by omega, by omega, ?_⟩
  unfold i64B at h1 h2
  rw [Int.toNat_of_nonneg e1, Int.toNat_of_nonneg e2]
  simp only [IntKind.wrap_u64]
  omega
set_option maxHeartbeats 1000000 in
theorem row_any (l : List Int) (hl : l.length ≤ 1000) (fr to : Int) (hfr : i64B fr) (hto : i64B to) (v : Value) (w : World) (hv : Si w v l) :
    Calls Try.prog 14 #[v, .int .i64 fr, .int .i64 to] w fun e w' => ∃ v', e = .returned v' ∧ Si w' v' (rowL l fr to) ∧ Below w.heap.size w w' := by
  obtain ⟨ao, cap, rfl, hc, hnn, hp⟩ := hv
  by_cases h1 : to ≤ fr
  · have hr : rowL l fr to = [] := by unfold rowL; rw [if_neg (by omega)]
    rw [hr]
    clear hfr hto hr
    go_enter Try.func14, Try.ntmps14
    go_wp2_with fail
    go_ret
    exact ⟨_, rfl, Si.nil _, Below.refl _ _⟩
  · obtain ⟨u, v, hu, hv, huv⟩ := u64_dist hfr hto (by omega)
    have hc1 : ∀ W : World, (Go.convert 3 49 (.int .i64 to)).run Try.prog W = .ok (.int .u64 (u : Nat)) W := fun W => by
      simp [Go.convert, go_sem, Conv.intToInt, hu]
    have hc2 : ∀ W : World, (Go.convert 3 49 (.int .i64 fr)).run Try.prog W = .ok (.int .u64 (v : Nat)) W := fun W => by
      simp [Go.convert, go_sem, Conv.intToInt, hv]
    have HFR := Lib.hid hfr
    have HTO := Lib.hid hto
    clear hu hv hfr hto
    by_cases h2 : 65536 < to - fr
    · have hr : rowL l fr to = [] := by unfold rowL; rw [if_neg (by omega)]
      rw [hr]
      clear hr
      go_enter Try.func14, Try.ntmps14
      go_wp2_with fail
      go_ret
      exact ⟨_, rfl, Si.nil _, Below.refl _ _⟩
    · obtain ⟨m, hm⟩ : ∃ m : Nat, to - fr = (m : Int) := ⟨(to - fr).toNat, by omega⟩
      have hr : rowL l fr to = rwN l fr to m l.length := by unfold rowL; rw [if_pos (by omega), hm]; simp
      have hw : wrap64 (to - fr) = (m : Int) := by rw [hm]; exact IntWalk.wrap64_in _ (by omega)
      rw [hm] at huv
      have hmk := mk_ints m (by omega)
      have hlen := rwN_len l fr to m
      rw [hr]
      have hm2 : m ≤ 65536 := by omega
      have HM := Lib.hid hm
      clear hr hm h2
      go_enter Try.func14, Try.ntmps14
      go_wp2_with fail
      go_loopw [27] (fun v wr => ∃ n : Nat, n ≤ l.length ∧ v = .int .i64 n ∧ row? wr w.heap.size = some (ivs (rwN l fr to m n)) ∧ Below w.heap.size w wr) (fun v _ => l.length - (intOf v).toNat)
      case atStart => exact ⟨0, by omega, rfl, by simp [go_sem]; rfl, (Below.refl _ _).alloc (Nat.le_refl _) _⟩
      case round =>
        obtain ⟨n, hn, rfl, h0, hb⟩ := hrel
        have H0 := Lib.hid h0
        have HL := Lib.hid hlen
        clear hlen
        by_cases hlt : n < l.length
        · obtain ⟨g, off, rfl, hcell⟩ := hp (by omega)
          have c1 := below_cell hb (hcell n hlt) (cell_lt (hcell n hlt))
          have HC := Lib.hid hcell
          clear hcell
          have hst : rwN l fr to m (n + 1) = if fr ≤ ni l n ∧ ni l n < to then (rwN l fr to m n).set (ni l n - fr).toNat (ni (rwN l fr to m n) (ni l n - fr).toNat + 1) else rwN l fr to m n := rfl
          have HST := Lib.hid hst
          clear hst
          generalize ni l n = x at *
          by_cases hx1 : fr ≤ x
          · by_cases hx2 : x < to
            · obtain ⟨j, hj⟩ : ∃ j : Nat, x - fr = (j : Int) := ⟨(x - fr).toNat, by omega⟩
              have hjm : j < m := by have := HM.out; omega
              have hw2 : wrap64 (x - fr) = (j : Int) := by rw [hj]; exact IntWalk.wrap64_in _ (by omega)
              have c2 : wr.cell? ⟨w.heap.size, j, none⟩ = some (.int .i64 (ni (rwN l fr to m n) j)) := (row?_cell h0 j).trans (by rw [ivs_getElem?, HL.out, if_pos hjm])
              have f2 := row?_frozen h0 j
              have hs : rwN l fr to m (n + 1) = (rwN l fr to m n).set j (ni (rwN l fr to m n) j + 1) := by
                rw [HST.out, if_pos ⟨hx1, hx2⟩, hj]; simp
              have HSS := Lib.hid hs
              have HJ := Lib.hid hj
              clear hs hj h0
              have hqb := rwN_le l fr to m n j
              have hw3 : wrap64 (ni (rwN l fr to m n) j + 1) = ni (rwN l fr to m n) j + 1 := IntWalk.wrap64_in _ (by omega)
              clear hqb
              generalize ni (rwN l fr to m n) j = q at *
              go_wp2_with fail
              go_roundw
              case rel =>
                refine ⟨n + 1, by omega, by go_num, ?_, hb.setCell (by simp) _⟩
                rw [row?_setCell_eq H0.out, ivs_set, HSS.out]
              case measure => simp [intOf]; omega
            · have hs : rwN l fr to m (n + 1) = rwN l fr to m n := by
                rw [HST.out, if_neg (fun h => hx2 h.2)]
              have HSS := Lib.hid hs
              clear hs h0
              go_wp2_with fail
              go_roundw
              case rel => exact ⟨n + 1, by omega, by go_num, by rw [HSS.out]; exact H0.out, hb⟩
              case measure => simp [intOf]; omega
          · have hs : rwN l fr to m (n + 1) = rwN l fr to m n := by
              rw [HST.out, if_neg (fun h => hx1 h.1)]
            have HSS := Lib.hid hs
            clear hs h0
            go_wp2_with fail
            go_roundw
            case rel => exact ⟨n + 1, by omega, by go_num, by rw [HSS.out]; exact H0.out, hb⟩
            case measure => simp [intOf]; omega
        · obtain rfl : n = l.length := by omega
          go_wp2_with fail
          go_ret
          refine ⟨_, rfl, ?_, hb⟩
          have := Si.row (w := wr) (g := w.heap.size) H0.out
          rwa [HL.out] at this
set_option maxHeartbeats 1000000 in
theorem rrow_any (l : List Int) (hl : l.length ≤ 1000) (fr to : Int) (hfr : i64B fr) (hto : i64B to) (v : Value) (w : World) (hv : Si w v l) :
    Calls Try.prog 18 #[v, .int .i64 fr, .int .i64 to] w fun e w' => ∃ v', e = .returned v' ∧ Si w' v' (rowL l fr to) ∧ Below w.heap.size w w' := by
  obtain ⟨ao, cap, rfl, hc, hnn, hp⟩ := hv
  by_cases h1 : to < fr
  · have hr : rowL l fr to = [] := by unfold rowL; rw [if_neg (by omega)]
    rw [hr]
    clear hfr hto hr
    go_enter Try.func18, Try.ntmps18
    go_wp2_with fail
    go_ret
    exact ⟨_, rfl, Si.nil _, Below.refl _ _⟩
  · obtain ⟨u, v, hu, hv, huv⟩ := u64_dist hfr hto (by omega)
    have hc1 : ∀ W : World, (Go.convert 3 48 (.int .i64 to)).run Try.prog W = .ok (.int .u64 (u : Nat)) W := fun W => by
      simp [Go.convert, go_sem, Conv.intToInt, hu]
    have hc2 : ∀ W : World, (Go.convert 3 48 (.int .i64 fr)).run Try.prog W = .ok (.int .u64 (v : Nat)) W := fun W => by
      simp [Go.convert, go_sem, Conv.intToInt, hv]
    have HFR := Lib.hid hfr
    have HTO := Lib.hid hto
    clear hu hv hfr hto
    by_cases h2 : 65536 < to - fr
    · have hr : rowL l fr to = [] := by unfold rowL; rw [if_neg (by omega)]
      rw [hr]
      clear hr
      go_enter Try.func18, Try.ntmps18
      go_wp2_with fail
      go_ret
      exact ⟨_, rfl, Si.nil _, Below.refl _ _⟩
    · obtain ⟨m, hm⟩ : ∃ m : Nat, to - fr = (m : Int) := ⟨(to - fr).toNat, by omega⟩
      have hr : rowL l fr to = rwN l fr to m l.length := by
        unfold rowL
        by_cases h : fr < to
        · rw [if_pos (by omega), hm]; simp
        · rw [if_neg (by omega)]
          exact (List.eq_nil_of_length_eq_zero (by rw [rwN_len]; omega)).symm
      have hw : wrap64 (to - fr) = (m : Int) := by rw [hm]; exact IntWalk.wrap64_in _ (by omega)
      rw [hm] at huv
      have hmk := mk_ints m (by omega)
      have hlen := rwN_len l fr to m
      rw [hr]
      have hm2 : m ≤ 65536 := by omega
      have HM := Lib.hid hm
      clear hr hm h2
      go_enter Try.func18, Try.ntmps18
      go_wp2_with fail
      go_loopw [8] (fun v wr => ∃ n : Nat, n ≤ l.length ∧ v = .int .i64 n ∧ row? wr w.heap.size = some (ivs (rwN l fr to m n)) ∧ Below w.heap.size w wr) (fun v _ => l.length - (intOf v).toNat)
      case atStart => exact ⟨0, by omega, rfl, by simp [go_sem]; rfl, (Below.refl _ _).alloc (Nat.le_refl _) _⟩
      case round =>
        obtain ⟨n, hn, rfl, h0, hb⟩ := hrel
        have H0 := Lib.hid h0
        have HL := Lib.hid hlen
        clear hlen
        by_cases hlt : n < l.length
        · obtain ⟨g, off, rfl, hcell⟩ := hp (by omega)
          have c1 := below_cell hb (hcell n hlt) (cell_lt (hcell n hlt))
          have HC := Lib.hid hcell
          clear hcell
          have hst : rwN l fr to m (n + 1) = if fr ≤ ni l n ∧ ni l n < to then (rwN l fr to m n).set (ni l n - fr).toNat (ni (rwN l fr to m n) (ni l n - fr).toNat + 1) else rwN l fr to m n := rfl
          have HST := Lib.hid hst
          clear hst
          generalize ni l n = x at *
          by_cases hx1 : fr ≤ x
          · by_cases hx2 : x < to
            · obtain ⟨j, hj⟩ : ∃ j : Nat, x - fr = (j : Int) := ⟨(x - fr).toNat, by omega⟩
              have hjm : j < m := by have := HM.out; omega
              have hw2 : wrap64 (x - fr) = (j : Int) := by rw [hj]; exact IntWalk.wrap64_in _ (by omega)
              have c2 : wr.cell? ⟨w.heap.size, j, none⟩ = some (.int .i64 (ni (rwN l fr to m n) j)) := (row?_cell h0 j).trans (by rw [ivs_getElem?, HL.out, if_pos hjm])
              have f2 := row?_frozen h0 j
              have hs : rwN l fr to m (n + 1) = (rwN l fr to m n).set j (ni (rwN l fr to m n) j + 1) := by
                rw [HST.out, if_pos ⟨hx1, hx2⟩, hj]; simp
              have HSS := Lib.hid hs
              have HJ := Lib.hid hj
              clear hs hj h0
              have hqb := rwN_le l fr to m n j
              have hw3 : wrap64 (ni (rwN l fr to m n) j + 1) = ni (rwN l fr to m n) j + 1 := IntWalk.wrap64_in _ (by omega)
              clear hqb
              generalize ni (rwN l fr to m n) j = q at *
              go_wp2_with fail
              go_roundw
              case rel =>
                refine ⟨n + 1, by omega, by go_num, ?_, hb.setCell (by simp) _⟩
                rw [row?_setCell_eq H0.out, ivs_set, HSS.out]
              case measure => simp [intOf]; omega
            · have hs : rwN l fr to m (n + 1) = rwN l fr to m n := by
                rw [HST.out, if_neg (fun h => hx2 h.2)]
              have HSS := Lib.hid hs
              clear hs h0
              go_wp2_with fail
              go_roundw
              case rel => exact ⟨n + 1, by omega, by go_num, by rw [HSS.out]; exact H0.out, hb⟩
              case measure => simp [intOf]; omega
          · have hs : rwN l fr to m (n + 1) = rwN l fr to m n := by
              rw [HST.out, if_neg (fun h => hx1 h.1)]
            have HSS := Lib.hid hs
            clear hs h0
            go_wp2_with fail
            go_roundw
            case rel => exact ⟨n + 1, by omega, by go_num, by rw [HSS.out]; exact H0.out, hb⟩
            case measure => simp [intOf]; omega
        · obtain rfl : n = l.length := by omega
          go_wp2_with fail
          go_ret
          refine ⟨_, rfl, ?_, hb⟩
          have := Si.row (w := wr) (g := w.heap.size) H0.out
          rwa [HL.out] at this
end Go.Proofs.Ytenoldpfclmedaa
