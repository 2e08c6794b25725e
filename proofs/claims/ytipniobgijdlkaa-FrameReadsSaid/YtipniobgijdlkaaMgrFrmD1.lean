/- The walks of the document's reader of frames: a number, so many bytes. -/
import Derived.Test.YtipniobgijdlkaaMgr10
import Derived.Test.YtipniobgijdlkaaMgrVarR2
namespace Frm
open Go Go.RowKit Go.Rw Hdr
/-- A number of the document's reader, at most so great. -/
def dnum (b : List UInt8) (most : Nat) (s : Nat × Int) : (Nat × Int) × Nat :=
  if s.2 ≠ 0 then (s, 0) else if (vget (b.drop s.1)).2.2 ≠ 0 then ((s.1, (vget (b.drop s.1)).2.2), 0)
  else if most < (vget (b.drop s.1)).1 then ((s.1, 5), 0) else ((s.1 + (vget (b.drop s.1)).2.1, 0), (vget (b.drop s.1)).1)
theorem dnum_bad {b : List UInt8} {most : Nat} {s : Nat × Int} (h : s.2 ≠ 0) : dnum b most s = (s, 0) := by unfold dnum; rw [if_pos h]
theorem dnum_le (b : List UInt8) (most : Nat) (s : Nat × Int) (h : s.1 ≤ b.length) : (dnum b most s).1.1 ≤ b.length := by
  unfold dnum
  have := vget_many (b.drop s.1)
  rw [List.length_drop] at this
  repeat' split
  all_goals simp only []
  all_goals omega
theorem dnum_lt62 (b : List UInt8) (most : Nat) (s : Nat × Int) : (dnum b most s).2 < 4611686018427387904 := by
  unfold dnum
  have := vget_lt62 (b.drop s.1)
  repeat' split
  all_goals simp only []
  all_goals omega
theorem dnum_most (b : List UInt8) (most : Nat) (s : Nat × Int) : (dnum b most s).2 ≤ most := by
  unfold dnum
  repeat' split
  all_goals simp only []
  all_goals omega
end Frm
namespace Go.Proofs.Ytipniobgijdlkaa
open Go.RowKit Go.Rw Frm Hdr
set_option maxRecDepth 20000 in
set_option maxHeartbeats 1000000 in
theorem dnum_any (b : List UInt8) (w0 : World) (vb : Value) (B : Nat) (w : World) (s : Nat × Int) (most : Nat) (hr : RS b w0 vb B w s) :
    Calls Try.prog 57 #[.pointer (some ⟨B, 0, none⟩), .int .u64 (most : Nat)] w fun e w' => e = .returned (.int .u64 ((dnum b most s).2 : Nat)) ∧ Mut B w w' ∧ RS b w0 vb B w' (dnum b most s).1 := by
  obtain ⟨at_, er⟩ := s
  obtain ⟨c0, c1, c2, ff⟩ := rs_cells hr
  have hat : at_ ≤ b.length := hr.at_
  have hlen := hr.len
  obtain ⟨ao, cap, rfl, hc, -, -⟩ := id hr.sl
  have HR := Lib.hid hr
  clear hr
  by_cases he : er = 0
  case neg =>
    rw [dnum_bad (b := b) (most := most) (s := (at_, er)) he]
    have q0 : (er != 0) = true := by simpa using he
    go_enter Try.func57, Try.ntmps57
    go_wp2_with fail
    go_ret
    exact ⟨rfl, Mut.refl _ _, HR.out⟩
  subst he
  have hv := rvget_any (b.drop at_) (by rw [List.length_drop]; omega)
  have hsc := HR.out.sl.cut at_ b.length hat (Nat.le_refl _)
  rw [List.take_length] at hsc
  have hle := dnum_le b most (at_, 0) hat
  obtain ⟨q, hq⟩ : ∃ q, dnum b most (at_, 0) = q := ⟨_, rfl⟩
  rw [hq] at hle ⊢
  have hm8 := vget_many8 (b.drop at_)
  unfold dnum at hq
  rw [if_neg (by simp)] at hq
  simp only [] at hq
  generalize vget (b.drop at_) = p at *
  obtain ⟨n, many, x⟩ := p
  simp only [] at hv hm8 hq ⊢
  have hcut : ∀ W, (Instr.sliceAt 25 (.slice ao b.length cap) (some (.int .i64 (at_ : Nat))) none none).run Try.prog W = .ok (.slice (cutA ao at_ cap) (b.length - at_) (cap - at_)) W := fun W => by
    rw [cut_l TB W _ _ _ _ _ (by omega) (by omega), Int.toNat_natCast]
  have HV := Lib.hid hv
  have SC := Lib.hid hsc
  have HQ := Lib.hid hq
  have HLE := Lib.hid hle
  clear hv hsc hq hle
  go_enter Try.func57, Try.ntmps57
  go_wp2_with fail
  refine Rg.wp_region_plan (Rg.row [(0, 3), (1, 3), (2, 3), (3, 0), (4, 3), (5, 3), (6, 3), (7, 0), (8, 3), (9, 1), (10, 3), (11, 3), (12, 3), (13, 3), (14, 3), (15, 3), (16, 3)] []) [] (by kernel_rfl) (by kernel_rfl) ?_
  simp only [Rg.row, Rg.PT.map, List.map_nil, List.getD_cons_zero, List.getD_cons_succ]
  go_wp2_with (first
    | ((with_reducible refine Rg.plan_pure ?_ ?_ ?_); kernel_rfl; kernel_rfl; intro _ _)
    | ((with_reducible refine Rg.plan_take ?_ ?_ ?_); kernel_rfl; kernel_rfl; intro _ _)
    | ((with_reducible refine Rg.plan_keep ?_ ?_); kernel_rfl; intro K hK)
    | (refine hK _ _ (Rg.Keep.refl _) ?_; clear hK)
    | (refine hK _ _ (Rg.Keep.of_below (by assumption)) ?_; clear hK)
    | ((with_reducible refine Rg.plan_skip ?_ ?_); kernel_rfl)
    | (with_reducible refine Rg.plan_done ?_)
    | (with_reducible refine Rg.calm_normal ?_))
  refine (HV.out _ _ (SC.out.below HR.out.bel.drew)).mono ?_
  rintro e w1 ⟨rfl, rfl⟩
  refine hK _ _ (Rg.Keep.refl _) ?_
  clear hK c0 c1 c2 ff
  have R1 := Lib.hid (RSdrew HR.out)
  obtain ⟨c0, c1, c2, ff⟩ := rs_cells R1.out
  have hq := HQ.out
  by_cases hx : x = 0
  case neg =>
    have q1 : (x == 0) = false := by simpa using hx
    have q2 : (x != 0) = true := by simpa using hx
    rw [if_pos hx] at hq
    subst hq
    clear HQ hx
    go_wp2_with (first
      | ((with_reducible refine Rg.plan_pure ?_ ?_ ?_); kernel_rfl; kernel_rfl; intro _ _)
      | ((with_reducible refine Rg.plan_take ?_ ?_ ?_); kernel_rfl; kernel_rfl; intro _ _)
      | ((with_reducible refine Rg.plan_keep ?_ ?_); kernel_rfl; intro K hK)
      | (refine hK _ _ (Rg.Keep.refl _) ?_; clear hK)
      | (refine hK _ _ (Rg.Keep.of_below (by assumption)) ?_; clear hK)
      | ((with_reducible refine Rg.plan_skip ?_ ?_); kernel_rfl)
      | (with_reducible refine Rg.plan_done ?_)
      | (with_reducible refine Rg.calm_normal ?_))
    go_ret
    have m : Mut B w ((w.setCell ⟨B, 2, none⟩ (.int .i64 x)).drew) := ((Mut.refl _ _).setCell _ _ _).drew
    exact ⟨rfl, m, HR.out.mut m (by rw [row?_drew, row?_setCell_eq HR.out.row]; rfl) HR.out.at_⟩
  subst hx
  rw [if_neg (by simp)] at hq
  by_cases hm : most < n
  case pos =>
    rw [if_pos hm] at hq
    subst hq
    have q1 : decide ((most : Int) < (n : Int)) = true := decide_eq_true (by omega)
    have q2 : decide (most < n) = true := decide_eq_true hm
    clear HQ hm
    go_wp2_with (first
      | ((with_reducible refine Rg.plan_pure ?_ ?_ ?_); kernel_rfl; kernel_rfl; intro _ _)
      | ((with_reducible refine Rg.plan_take ?_ ?_ ?_); kernel_rfl; kernel_rfl; intro _ _)
      | ((with_reducible refine Rg.plan_keep ?_ ?_); kernel_rfl; intro K hK)
      | (refine hK _ _ (Rg.Keep.refl _) ?_; clear hK)
      | (refine hK _ _ (Rg.Keep.of_below (by assumption)) ?_; clear hK)
      | ((with_reducible refine Rg.plan_skip ?_ ?_); kernel_rfl)
      | (with_reducible refine Rg.plan_done ?_)
      | (with_reducible refine Rg.calm_normal ?_))
    go_ret
    have m : Mut B w ((w.setCell ⟨B, 2, none⟩ (.int .i64 5)).drew) := ((Mut.refl _ _).setCell _ _ _).drew
    exact ⟨rfl, m, HR.out.mut m (by rw [row?_drew, row?_setCell_eq HR.out.row]; rfl) HR.out.at_⟩
  rw [if_neg hm] at hq
  subst hq
  have q1 : decide ((most : Int) < (n : Int)) = false := decide_eq_false (by omega)
  have q2 : decide (most < n) = false := decide_eq_false hm
  have hwr : wrap64 ((at_ : Int) + (many : Int)) = (at_ : Int) + (many : Int) := by unfold wrap64; omega
  clear HQ hm
  go_wp2_with (first
    | ((with_reducible refine Rg.plan_pure ?_ ?_ ?_); kernel_rfl; kernel_rfl; intro _ _)
    | ((with_reducible refine Rg.plan_take ?_ ?_ ?_); kernel_rfl; kernel_rfl; intro _ _)
    | ((with_reducible refine Rg.plan_keep ?_ ?_); kernel_rfl; intro K hK)
    | (refine hK _ _ (Rg.Keep.refl _) ?_; clear hK)
    | (refine hK _ _ (Rg.Keep.of_below (by assumption)) ?_; clear hK)
    | ((with_reducible refine Rg.plan_skip ?_ ?_); kernel_rfl)
    | (with_reducible refine Rg.plan_done ?_)
    | (with_reducible refine Rg.calm_normal ?_))
  go_ret
  have m : Mut B w ((w.setCell ⟨B, 1, none⟩ (.int .i64 ((at_ : Int) + (many : Int)))).drew) := ((Mut.refl _ _).setCell _ _ _).drew
  exact ⟨rfl, m, HR.out.mut m (by rw [row?_drew, row?_setCell_eq HR.out.row, ← Int.natCast_add]; rfl) HLE.out⟩
set_option maxRecDepth 20000 in
set_option maxHeartbeats 1000000 in
theorem dtake_any (b : List UInt8) (w0 : World) (vb : Value) (B : Nat) (w : World) (s : Nat × Int) (n : Nat) (hn : n < 4611686018427387904) (hr : RS b w0 vb B w s) :
    Calls Try.prog 58 #[.pointer (some ⟨B, 0, none⟩), .int .i64 (n : Nat)] w fun e w' => ∃ v, e = .returned v ∧ w'.ownsRow w.heap.size 5 1 v (rtake b n s).2.length ((rtake b n s).2.map bv) ∧ Mut B w w' ∧ RS b w0 vb B w' (rtake b n s).1 := by
  obtain ⟨at_, er⟩ := s
  obtain ⟨i0, hi0, hz0, hz1, hz2⟩ := info_parts info8
  obtain ⟨c0, c1, c2, ff⟩ := rs_cells hr
  have hat : at_ ≤ b.length := hr.at_
  have hlen := hr.len
  obtain ⟨ao, cap, rfl, hc, -, -⟩ := id hr.sl
  simp only [] at c1
  have hw1 : wrap64 ((b.length : Int) - (at_ : Int)) = (b.length : Int) - (at_ : Int) := by unfold wrap64; omega
  have HR := Lib.hid hr
  obtain ⟨q, hq⟩ : ∃ q, rtake b n (at_, er) = q := ⟨_, rfl⟩
  rw [hq]
  have HQ := Lib.hid hq
  clear hr hq
  by_cases he : er = 0
  case neg =>
    have e2 : rtake b n (at_, er) = ((at_, er), []) := rtake_bad (by simpa using he)
    have e3 : (er != 0) = true := by simpa using he
    have hq := HQ.out
    rw [e2] at hq
    subst hq
    clear e2 HQ he
    go_enter Try.func58, Try.ntmps58
    go_wp2_with fail
    go_ret
    exact ⟨_, rfl, World.ownsRow_nil _ _ _ _, Mut.refl _ _, HR.out⟩
  subst he
  by_cases hsh : b.length - at_ < n
  case pos =>
    have hq := HQ.out
    rw [rtake_short hsh] at hq
    subst hq
    have q1 : decide ((b.length : Int) - (at_ : Int) < (n : Int)) = true := decide_eq_true (by omega)
    have q2 : decide (b.length - at_ < n) = true := decide_eq_true hsh
    clear HQ hsh
    go_enter Try.func58, Try.ntmps58
    go_wp2_with fail
    refine Rg.wp_region_plan (Rg.row [(0, 3), (1, 3), (2, 3), (3, 3), (4, 0), (5, 0), (6, 3), (7, 3), (8, 3), (9, 0), (10, 3), (11, 3)] []) [] (by kernel_rfl) (by kernel_rfl) ?_
    simp only [Rg.row, Rg.PT.map, List.map_nil, List.getD_cons_zero, List.getD_cons_succ]
    go_wp2_with (first
      | ((with_reducible refine Rg.plan_pure ?_ ?_ ?_); kernel_rfl; kernel_rfl; intro _ _)
      | ((with_reducible refine Rg.plan_take ?_ ?_ ?_); kernel_rfl; kernel_rfl; intro _ _)
      | ((with_reducible refine Rg.plan_keep ?_ ?_); kernel_rfl; intro K hK)
      | (refine hK _ _ (Rg.Keep.refl _) ?_; clear hK)
      | (refine hK _ _ (Rg.Keep.of_below (by assumption)) ?_; clear hK)
      | ((with_reducible refine Rg.plan_skip ?_ ?_); kernel_rfl)
      | (with_reducible refine Rg.plan_done ?_)
      | (with_reducible refine Rg.calm_normal ?_))
    go_ret
    have m : Mut B w ((w.setCell ⟨B, 2, none⟩ (.int .i64 3)).drew) := ((Mut.refl _ _).setCell _ _ _).drew
    exact ⟨_, rfl, World.ownsRow_nil _ _ _ _, m, HR.out.mut m (by rw [row?_drew, row?_setCell_eq HR.out.row]; rfl) HR.out.at_⟩
  have hq := HQ.out
  rw [rtake_ok (by omega)] at hq
  obtain ⟨T, hT⟩ : ∃ T, (b.drop at_).take n = T := ⟨_, rfl⟩
  rw [hT] at hq
  have HT := Lib.hid hT
  clear hT
  subst hq
  have q1 : decide ((b.length : Int) - (at_ : Int) < (n : Int)) = false := decide_eq_false (by omega)
  have q2 : decide (b.length - at_ < n) = false := decide_eq_false hsh
  have hnl : n ≤ 1000000 := by omega
  have hw4 : wrap64 ((at_ : Int) + (n : Int)) = (at_ : Int) + (n : Int) := by unfold wrap64; omega
  go_enter Try.func58, Try.ntmps58
  go_wp2_with fail
  refine Rg.wp_region_plan (Rg.row [(0, 3), (1, 3), (2, 3), (3, 3), (4, 0), (5, 0), (6, 3), (7, 3), (8, 3), (9, 0), (10, 3), (11, 3)] []) [] (by kernel_rfl) (by kernel_rfl) ?_
  simp only [Rg.row, Rg.PT.map, List.map_nil, List.getD_cons_zero, List.getD_cons_succ]
  go_wp2_with (first
    | ((with_reducible refine Rg.plan_pure ?_ ?_ ?_); kernel_rfl; kernel_rfl; intro _ _)
    | ((with_reducible refine Rg.plan_take ?_ ?_ ?_); kernel_rfl; kernel_rfl; intro _ _)
    | ((with_reducible refine Rg.plan_keep ?_ ?_); kernel_rfl; intro K hK)
    | (refine hK _ _ (Rg.Keep.refl _) ?_; clear hK)
    | (refine hK _ _ (Rg.Keep.of_below (by assumption)) ?_; clear hK)
    | ((with_reducible refine Rg.plan_skip ?_ ?_); kernel_rfl)
    | (with_reducible refine Rg.plan_done ?_)
    | (with_reducible refine Rg.calm_normal ?_))
  have m3 : Mut B w ((w.setCell ⟨B, 1, none⟩ (.int .i64 ((at_ : Int) + (n : Int)))).drew) := ((Mut.refl _ _).setCell _ _ _).drew
  have r3 : RS b w0 (.slice ao b.length cap) B ((w.setCell ⟨B, 1, none⟩ (.int .i64 ((at_ : Int) + (n : Int)))).drew) (at_ + n, 0) := HR.out.mut m3 (by rw [row?_drew, row?_setCell_eq HR.out.row, ← Int.natCast_add]; rfl) (by show at_ + n ≤ b.length; omega)
  clear c0 c1 c2 ff
  generalize ((w.setCell ⟨B, 1, none⟩ (.int .i64 ((at_ : Int) + (n : Int)))).drew) = w3 at m3 r3 ⊢
  obtain ⟨c0, c1, c2, ff⟩ := rs_cells r3
  simp only [Int.natCast_add] at c1
  have hw5 : wrap64 ((at_ : Int) + (n : Int) - (n : Int)) = (at_ : Int) := by unfold wrap64; omega
  have hcut : ∀ W, (Instr.sliceAt 25 (.slice ao b.length cap) (some (.int .i64 (at_ : Nat))) (some (.int .i64 ((at_ : Int) + n))) none).run Try.prog W = .ok (.slice (cutA ao at_ cap) n (cap - at_)) W := fun W => by
    rw [show ((at_ : Int) + n) = ((at_ + n : Nat) : Int) from rfl, cut_lh TB W _ _ _ _ _ _ _ (by omega) (by omega) (by omega), Int.toNat_natCast, Int.toNat_natCast, Nat.add_sub_cancel_left]
  have hsc := r3.sl.cut at_ (at_ + n) (by omega) (by omega)
  rw [Nat.add_sub_cancel_left, List.drop_take, Nat.add_sub_cancel_left] at hsc
  have hln : ((b.drop at_).take n).length = n := by rw [List.length_take, List.length_drop]; omega
  rw [HT.out] at hsc hln
  have M3 := Lib.hid m3
  have R3 := Lib.hid r3
  have SC := Lib.hid hsc
  have HLN := Lib.hid hln
  clear m3 r3 hsc HR hw4 hln q1 q2 hw1
  refine Rg.wp_region_plan (Rg.row [(0, 3), (1, 3), (2, 3), (3, 0), (4, 3), (5, 3), (6, 3), (7, 0), (8, 3), (9, 3), (10, 3), (11, 3), (12, 3), (13, 0), (14, 3), (15, 1), (16, 3)] []) [] (by kernel_rfl) (by kernel_rfl) ?_
  simp only [Rg.row, Rg.PT.map, List.map_nil, List.getD_cons_zero, List.getD_cons_succ]
  go_wp2_with (first
    | (with_reducible refine Rg.hold_plan 49 1 ?_)
    | ((with_reducible refine Rg.plan_pure ?_ ?_ ?_); kernel_rfl; kernel_rfl; intro _ _)
    | ((with_reducible refine Rg.plan_take ?_ ?_ ?_); kernel_rfl; kernel_rfl; intro _ _)
    | ((with_reducible refine Rg.plan_keep ?_ ?_); kernel_rfl; intro K hK)
    | (refine hK _ _ (Rg.Keep.refl _) ?_; clear hK)
    | (refine hK _ _ (Rg.Keep.of_below (by assumption)) ?_; clear hK)
    | ((with_reducible refine Rg.plan_skip ?_ ?_); kernel_rfl)
    | (with_reducible refine Rg.plan_done ?_)
    | (with_reducible refine Rg.calm_normal ?_))
  refine Rw.Held.mk ?_
  refine Rg.plan_app0 (v := .slice (cutA ao at_ cap) n (cap - at_)) (l := T) 49 rfl (.tmp 48) rfl (by kernel_rfl) Try.underlying25 hi0 hz0 hz1 hz2 (by kernel_rfl) (SC.out.below R3.out.bel.drew) (by have := HLN.out; omega) ?_
  intro v4 w4 o4 b4
  have m4 : Mut B w w4 := M3.out.drew.trans (Mut.of_below b4)
  have R4 := Lib.hid ((RSdrew R3.out).mut (Mut.of_below b4) (by rw [row?_below b4 (row?_lt R3.out.row)]; exact R3.out.row) R3.out.at_)
  have O4 := Lib.hid (own_lower o4 M3.out.drew.size)
  clear o4 b4 c0 c1 c2 ff hw5 hcut
  go_wp2_with (first
    | ((with_reducible refine Rg.plan_pure ?_ ?_ ?_); kernel_rfl; kernel_rfl; intro _ _)
    | ((with_reducible refine Rg.plan_take ?_ ?_ ?_); kernel_rfl; kernel_rfl; intro _ _)
    | ((with_reducible refine Rg.plan_keep ?_ ?_); kernel_rfl; intro K hK)
    | (refine hK _ _ (Rg.Keep.refl _) ?_; clear hK)
    | (refine hK _ _ (Rg.Keep.of_below (by assumption)) ?_; clear hK)
    | ((with_reducible refine Rg.plan_skip ?_ ?_); kernel_rfl)
    | (with_reducible refine Rg.plan_done ?_)
    | (with_reducible refine Rg.calm_normal ?_))
  go_ret
  exact ⟨_, rfl, O4.out, m4, R4.out⟩
end Go.Proofs.Ytipniobgijdlkaa
