/- The walks of what the laws share: lists held against one another, written over, copied. -/
import Derived.Test.YtipniobgijdlkaaLibS
import Derived.Test.YtipniobgijdlkaaLibF
import Derived.Test.YtipniobgijdlkaaAesM
import Derived.Lib.SlBytesConst
import Derived.Test.YtipniobgijdlkaaProg
namespace Go.Proofs.Ytipniobgijdlkaa
open Go.RowKit Go.Rw Aes
theorem TB : SlT Try.prog 25 5 := ⟨Try.underlying25, rfl, by kernel_rfl⟩
theorem info8 : (Try.prog.info? 5).map (fun i => (i.zero, i.size, i.bytes)) = some (some (.int .u8 0), 1, 1) := by kernel_rfl
theorem bel2 (w : World) (a b : Obj) : Below w.heap.size w ((w.alloc a).alloc b) := ((Below.refl _ _).alloc (Nat.le_refl _) _).alloc (by simp) _
theorem bel3 (w : World) (a b c : Obj) : Below w.heap.size w (((w.alloc a).alloc b).alloc c) := (bel2 w a b).alloc (by simp; omega) _
set_option maxHeartbeats 1000000 in
theorem same_any (a b : List UInt8) (ha : a.length ≤ 1000000) (va vb : Value) (w : World) (hsa : Sl w va a) (hsb : Sl w vb b) :
    Calls Try.prog 29 #[va, vb] w fun e w' => e = .returned (.bool (decide (a = b))) ∧ Below w.heap.size w w' := by
  obtain ⟨ao, cap, rfl, hc, hnn, hp⟩ := hsa
  obtain ⟨ao2, cap2, rfl, hc2, hnn2, hp2⟩ := hsb
  by_cases hl : a.length = b.length
  · go_enter Try.func29, Try.ntmps29
    rw [← hl]
    rw [← hl] at hp2
    have hab : ∀ k, k < a.length → nth a k ≠ nth b k → a ≠ b := fun k _ h e => h (by rw [e])
    go_wp2_with fail
    go_loopw [5] (fun v wr => ∃ k : Nat, k ≤ a.length ∧ v = .int .i64 k ∧ (∀ j, j < k → nth a j = nth b j) ∧ Below w.heap.size w wr) (fun v _ => a.length - (intOf v).toNat)
    case atStart => exact ⟨0, by omega, rfl, fun j hj => by omega, Below.refl _ _⟩
    case round =>
      obtain ⟨k, hk, rfl, he, hb⟩ := hrel
      have HE := Lib.hid he
      clear he
      by_cases hlt : k < a.length
      · obtain ⟨b1, off1, rfl, hcell1⟩ := hp (by omega)
        obtain ⟨b2, off2, rfl, hcell2⟩ := hp2 (by omega)
        have c1 := below_cell hb (hcell1 k hlt) (cell_lt (hcell1 k hlt))
        have c2 := below_cell hb (hcell2 k hlt) (cell_lt (hcell2 k hlt))
        have HC1 := Lib.hid hcell1
        have HC2 := Lib.hid hcell2
        have HAB := Lib.hid hab
        have HL := Lib.hid hl
        clear hcell1 hcell2 hab hl
        cases hne : (nth a k != nth b k)
        · go_wp2_with fail
          refine Rg.wp_region_plan (Rg.row [(0, 3), (1, 3), (2, 3), (3, 0), (4, 3), (5, 3), (6, 3), (7, 0), (8, 3)] []) [] (by kernel_rfl) (by kernel_rfl) ?_
          simp only [Rg.row, Rg.PT.map, List.map_nil, List.getD_cons_zero, List.getD_cons_succ]
          go_wp2_with (first
            | ((with_reducible refine Rg.plan_pure ?_ ?_ ?_); kernel_rfl; kernel_rfl; intro _ _)
            | ((with_reducible refine Rg.plan_take ?_ ?_ ?_); kernel_rfl; kernel_rfl; intro _ _)
            | ((with_reducible refine Rg.plan_keep ?_ ?_); kernel_rfl; intro K hK)
            | (refine hK _ _ (Rg.Keep.refl _) ?_; clear hK)
            | (refine hK _ _ (Rg.Keep.of_below (by assumption)) ?_; clear hK)
            | ((with_reducible refine Rg.plan_skip ?_ ?_); kernel_rfl)
            | (with_reducible refine Rg.plan_done ?_)
            | (with_reducible refine Rg.calm_normal ?_))
          go_roundw
          case rel =>
            refine ⟨k + 1, by omega, by go_num, fun j hj => ?_, hb.drew⟩
            rcases Nat.lt_or_ge j k with h | h
            · exact HE.out j h
            · rw [show j = k by omega]; simpa using hne
          case measure => simp [intOf]; omega
        · have hd : decide (a = b) = false := decide_eq_false (HAB.out k hlt (by simpa using hne))
          have HD := Lib.hid hd
          clear hd
          go_wp2_with fail
          refine Rg.wp_region_plan (Rg.row [(0, 3), (1, 3), (2, 3), (3, 0), (4, 3), (5, 3), (6, 3), (7, 0), (8, 3)] []) [] (by kernel_rfl) (by kernel_rfl) ?_
          simp only [Rg.row, Rg.PT.map, List.map_nil, List.getD_cons_zero, List.getD_cons_succ]
          go_wp2_with (first
            | ((with_reducible refine Rg.plan_pure ?_ ?_ ?_); kernel_rfl; kernel_rfl; intro _ _)
            | ((with_reducible refine Rg.plan_take ?_ ?_ ?_); kernel_rfl; kernel_rfl; intro _ _)
            | ((with_reducible refine Rg.plan_keep ?_ ?_); kernel_rfl; intro K hK)
            | (refine hK _ _ (Rg.Keep.refl _) ?_; clear hK)
            | (refine hK _ _ (Rg.Keep.of_below (by assumption)) ?_; clear hK)
            | ((with_reducible refine Rg.plan_skip ?_ ?_); kernel_rfl)
            | (with_reducible refine Rg.plan_done ?_)
            | (with_reducible refine Rg.calm_normal ?_))
          go_ret
          exact ⟨by rw [HD.out]; rfl, hb.drew⟩
      · have hd : decide (a = b) = true := decide_eq_true (ext16 rfl hl.symm fun i hi => HE.out i (by omega))
        have HD := Lib.hid hd
        clear hd
        go_wp2_with fail
        go_ret
        exact ⟨by rw [HD.out]; rfl, hb⟩
  · have hd : decide (a = b) = false := decide_eq_false (fun e => hl (by rw [e]))
    have HD := Lib.hid hd
    have hl2 : ((a.length : Int) == (b.length : Int)) = false := by simpa using fun e : (a.length : Int) = b.length => hl (by omega)
    clear hd
    go_enter Try.func29, Try.ntmps29
    go_wp2_with fail
    go_ret
    exact ⟨by rw [HD.out]; rfl, Below.refl _ _⟩

set_option maxHeartbeats 1000000 in
theorem over_any (l : List UInt8) (hl : l.length ≤ 1000000) (v : Value) (B : Nat) (w : World) (hBs : B ≤ w.heap.size) (hown : w.ownsRow B 5 1 v l.length (l.map bv)) :
    Calls Try.prog 34 #[v] w fun e w' => e = .returned (.tuple #[]) ∧ w.grownBy w' v.ownBlock := by
  obtain ⟨i0, hi, hz0, hz1, hz2⟩ := info_parts info8
  obtain ⟨ao, cap, hv, hc, hnn, hp⟩ := Own.sl hown
  go_enter Try.func34, Try.ntmps34
  subst hv
  go_wp2_with fail
  go_loopw [2] (fun v wr => ∃ (k : Nat) (l' : List UInt8), k ≤ l.length ∧ v = .int .i64 (k : Nat) ∧ l'.length = l.length ∧ wr.ownsRow B 5 1 (.slice ao l.length cap) l.length (l'.map bv) ∧ w.grownBy wr (Value.slice ao l.length cap).ownBlock) (fun v _ => l.length - (intOf v).toNat)
  case atStart => exact ⟨0, l, by omega, rfl, rfl, hown, World.grownBy.refl _ _⟩
  case round =>
    obtain ⟨k, l', hk, rfl, hl', how, hb⟩ := hrel
    by_cases hlt : k < l.length
    · obtain ⟨g, off, rfl, hcell⟩ := hp (by omega)
      obtain rfl : off = 0 := by
        rcases hown.2 with ⟨h', _⟩ | ⟨g', cap', cur, h', _⟩
        · cases h'
        · simp at h'; exact h'.1.2
      have cO : wr.cell? ⟨g, k, none⟩ = some (.int .u8 (n8 (nth l' k) : Nat)) := by
        rw [how.cellAt k (by omega)]
        simp [nth, bv, n8, show k < l'.length by omega]
      have fO := how.frozenAt k
      have HO := Lib.hid (own_stored how k 238)
      have GR := Lib.hid (how.stored k (bv 238)).2
      have HO0 := Lib.hid how
      have HH := Lib.hid hown
      have HC := Lib.hid hcell
      clear how hown hcell
      go_wp2_with fail
      go_roundw
      case rel => exact ⟨k + 1, l'.set k 238, by omega, by go_num, by simp [hl'], HO.out, grown_trans hb GR.out⟩
      case measure => simp [intOf]; omega
    · have zb := hb.size
      have HH := Lib.hid hown
      have HO := Lib.hid how
      clear hown how
      go_wp2_with (at_builtin; refine wpList_append_own _ rfl _ _ 25 rfl B 5 i0 (.int .u8 0) 1 1 Try.underlying25 hi hz0 hz1 hz2 rfl (by decide) _ l.length _ rfl (HO.out.alloc _) ⟨_, 0, none⟩ 1 1 [bv 238] rfl rfl ?c1 ?c2 ?c3 ?c4 ?c5 ?_)
      case c1 =>
        intro j u hj
        match j, hj with
        | 0, hj => simp at hj; subst hj; exact cell_new _ _ _ _ rfl
      case c2 => exact map_bv_one [238]
      case c3 => unfold maxLen; omega
      case c4 => omega
      case c5 => simp; omega
      intro v' w2 hown2 hgrow2 _
      have kb := grown_trans hb (grown_trans (grown_alloc wr (.cells #[.int .u8 238] 5) (Value.slice ao l.length cap).ownBlock) hgrow2)
      clear hown2 hgrow2
      go_wp2_with fail
      go_end0
      exact ⟨rfl, kb⟩

end Go.Proofs.Ytipniobgijdlkaa
