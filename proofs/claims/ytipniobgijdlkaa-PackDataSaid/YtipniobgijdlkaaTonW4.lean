/- The walks of SameInts, of package tone's Row. -/
import Derived.Test.YtipniobgijdlkaaLibI
import Derived.Test.YtipniobgijdlkaaLow
namespace Tone
open Go Go.Rw
end Tone
namespace Go.Proofs.Ytipniobgijdlkaa
open Go.RowKit Go.Rw Tone
theorem extI {a b : List Int} (hl : a.length = b.length) (h : ∀ i, i < a.length → ni a i = ni b i) : a = b := by
  apply List.ext_getElem hl
  intro i h1 h2
  have := h i h1
  simpa [ni, h1, h2] using this
set_option maxHeartbeats 1000000 in
theorem sameI_any (a b : List Int) (ha : a.length ≤ 1000000) (va vb : Value) (w : World) (hsa : Si w va a) (hsb : Si w vb b) :
    Calls Try.prog 39 #[va, vb] w fun e w' => e = .returned (.bool (decide (a = b))) ∧ Below w.heap.size w w' := by
  obtain ⟨ao, cap, rfl, hc, hnn, hp⟩ := hsa
  obtain ⟨ao2, cap2, rfl, hc2, hnn2, hp2⟩ := hsb
  by_cases hl : a.length = b.length
  · go_enter Try.func39, Try.ntmps39
    rw [← hl]
    rw [← hl] at hp2
    have hab : ∀ k, k < a.length → ni a k ≠ ni b k → a ≠ b := fun k _ h e => h (by rw [e])
    go_wp2_with fail
    go_loopw [5] (fun v wr => ∃ k : Nat, k ≤ a.length ∧ v = .int .i64 k ∧ (∀ j, j < k → ni a j = ni b j) ∧ Below w.heap.size w wr) (fun v _ => a.length - (intOf v).toNat)
    case atStart => exact ⟨0, by omega, rfl, fun j hj => by omega, Below.refl _ _⟩
    case round =>
      obtain ⟨k, hk, rfl, he, hb⟩ := hrel
      have HE := Lib.hid he
      clear he
      by_cases hlt : k < a.length
      · obtain ⟨b1, off1, rfl, hcell1⟩ := hp (by omega)
        obtain ⟨b2, off2, rfl, hcell2⟩ := hp2 (by omega)
        have c1 := below_cell hb (hcell1 k hlt) (cell_lt (hcell1 k hlt))
        have c2 := below_cell hb (hcell2 k hlt) (cell_lt (hcell2 k hlt))
        have HC1 := Lib.hid hcell1
        have HC2 := Lib.hid hcell2
        have HAB := Lib.hid hab
        have HL := Lib.hid hl
        clear hcell1 hcell2 hab hl
        cases hne : (ni a k != ni b k)
        · go_wp2_with fail
          refine Rg.wp_region_plan (Rg.row [(0, 3), (1, 3), (2, 3), (3, 0), (4, 3), (5, 3), (6, 3), (7, 0), (8, 3)] []) [] (by kernel_rfl) (by kernel_rfl) ?_
          simp only [Rg.row, Rg.PT.map, List.map_nil, List.getD_cons_zero, List.getD_cons_succ]
          go_wp2_with (first
            | ((with_reducible refine Rg.plan_pure ?_ ?_ ?_); kernel_rfl; kernel_rfl; intro _ _)
            | ((with_reducible refine Rg.plan_take ?_ ?_ ?_); kernel_rfl; kernel_rfl; intro _ _)
            | ((with_reducible refine Rg.plan_keep ?_ ?_); kernel_rfl; intro K hK)
            | (refine hK _ _ (Rg.Keep.refl _) ?_; clear hK)
            | (refine hK _ _ (Rg.Keep.of_below (by assumption)) ?_; clear hK)
            | ((with_reducible refine Rg.plan_skip ?_ ?_); kernel_rfl)
            | (with_reducible refine Rg.plan_done ?_)
            | (with_reducible refine Rg.calm_normal ?_))
          go_roundw
          case rel =>
            refine ⟨k + 1, by omega, by go_num, fun j hj => ?_, hb.drew⟩
            rcases Nat.lt_or_ge j k with h | h
            · exact HE.out j h
            · rw [show j = k by omega]; simpa using hne
          case measure => simp [intOf]; omega
        · have hd : decide (a = b) = false := decide_eq_false (HAB.out k hlt (by simpa using hne))
          have HD := Lib.hid hd
          clear hd
          go_wp2_with fail
          refine Rg.wp_region_plan (Rg.row [(0, 3), (1, 3), (2, 3), (3, 0), (4, 3), (5, 3), (6, 3), (7, 0), (8, 3)] []) [] (by kernel_rfl) (by kernel_rfl) ?_
          simp only [Rg.row, Rg.PT.map, List.map_nil, List.getD_cons_zero, List.getD_cons_succ]
          go_wp2_with (first
            | ((with_reducible refine Rg.plan_pure ?_ ?_ ?_); kernel_rfl; kernel_rfl; intro _ _)
            | ((with_reducible refine Rg.plan_take ?_ ?_ ?_); kernel_rfl; kernel_rfl; intro _ _)
            | ((with_reducible refine Rg.plan_keep ?_ ?_); kernel_rfl; intro K hK)
            | (refine hK _ _ (Rg.Keep.refl _) ?_; clear hK)
            | (refine hK _ _ (Rg.Keep.of_below (by assumption)) ?_; clear hK)
            | ((with_reducible refine Rg.plan_skip ?_ ?_); kernel_rfl)
            | (with_reducible refine Rg.plan_done ?_)
            | (with_reducible refine Rg.calm_normal ?_))
          go_ret
          exact ⟨by rw [HD.out]; rfl, hb.drew⟩
      · have hd : decide (a = b) = true := decide_eq_true (extI hl fun i hi => HE.out i (by omega))
        have HD := Lib.hid hd
        clear hd
        go_wp2_with fail
        go_ret
        exact ⟨by rw [HD.out]; rfl, hb⟩
  · have hd : decide (a = b) = false := decide_eq_false (fun e => hl (by rw [e]))
    have HD := Lib.hid hd
    have hl2 : ((a.length : Int) == (b.length : Int)) = false := by simpa using fun e : (a.length : Int) = b.length => hl (by omega)
    clear hd
    go_enter Try.func39, Try.ntmps39
    go_wp2_with fail
    go_ret
    exact ⟨by rw [HD.out]; rfl, Below.refl _ _⟩
theorem infoI : (Try.prog.info? 3).map (fun i => (i.zero, i.size, i.bytes)) = some (some (.int .i64 0), 1, 8) := by kernel_rfl
theorem made_ints (n : Nat) : madeCells #[Value.int .i64 0] n = ivs (List.replicate n 0) := by
  apply Array.toList_inj.1
  rw [toList_madeCells_one]; simp [ivs, iv]
theorem mk_ints (n : Nat) (h : n ≤ 1000000) (w : World) : (Instr.makeSlice 34 (.int .i64 (n : Nat)) (.int .i64 (n : Nat))).run Try.prog w = .ok (.slice (some ⟨w.heap.size, 0, none⟩) n n) (w.alloc (.cells (ivs (List.replicate n 0)) 3)) := by
  obtain ⟨i0, hi, hz0, hz1, hz2⟩ := info_parts infoI
  rw [run_make w _ _ i0 _ Try.underlying34 hi hz0 .i64 .i64 (n : Nat) (n : Nat) (by omega) (by omega) (by rw [hz2]; omega) (by omega)]
  rw [hz1, Nat.mul_one]
  simp only [Int.toNat_natCast]
  rw [← made_ints]; rfl
/-- how often each tick stands there, after n ticks -/
def rwN (l : List Int) (fr to : Int) (m : Nat) : Nat → List Int
  | 0 => List.replicate m 0
  | n + 1 => if fr ≤ ni l n ∧ ni l n < to then (rwN l fr to m n).set (ni l n - fr).toNat (ni (rwN l fr to m n) (ni l n - fr).toNat + 1) else rwN l fr to m n
theorem rwN_len (l : List Int) (fr to : Int) (m : Nat) : ∀ n, (rwN l fr to m n).length = m
  | 0 => by simp [rwN]
  | n + 1 => by
    simp only [rwN]
    split
    · rw [List.length_set, rwN_len l fr to m n]
    · exact rwN_len l fr to m n
theorem rwN_le (l : List Int) (fr to : Int) (m : Nat) : ∀ n j, 0 ≤ ni (rwN l fr to m n) j ∧ ni (rwN l fr to m n) j ≤ n
  | 0, j => by
    simp only [rwN, ni, List.getElem?_replicate]
    split <;> simp
  | n + 1, j => by
    have ih := rwN_le l fr to m n
    simp only [rwN]
    split
    · by_cases h : (ni l n - fr).toNat < m
      · rw [ni_set _ _ _ _ (by rw [rwN_len]; exact h)]
        split
        · have := ih (ni l n - fr).toNat; omega
        · have := ih j; omega
      · rw [List.set_eq_of_length_le (by rw [rwN_len]; omega)]
        have := ih j; omega
    · have := ih j; omega
def rowL (l : List Int) (fr to : Int) : List Int := if fr < to ∧ to - fr ≤ 65536 then rwN l fr to (to - fr).toNat l.length else []
def i64B (x : Int) : Prop := -9223372036854775808 ≤ x ∧ x ≤ 9223372036854775807
theorem u64_dist {fr to : Int} (h1 : i64B fr) (h2 : i64B to) (h : fr ≤ to) : ∃ u v : Nat, IntKind.u64.wrap to = (u : Int) ∧ IntKind.u64.wrap fr = (v : Int) ∧ IntKind.u64.wrap ((u : Int) - (v : Int)) = to - fr := by
  have e1 := (u64_nonneg to).1
  have e2 := (u64_nonneg fr).1
  refine ⟨(IntKind.u64.wrap to).toNat, (IntKind.u64.wrap fr).toNat, by omega, by omega, ?_⟩
  unfold i64B at h1 h2
  rw [Int.toNat_of_nonneg e1, Int.toNat_of_nonneg e2]
  simp only [IntKind.wrap_u64]
  omega
end Go.Proofs.Ytipniobgijdlkaa
