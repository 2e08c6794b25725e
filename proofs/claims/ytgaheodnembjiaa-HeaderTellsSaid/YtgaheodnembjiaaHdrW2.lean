/- The walks of package header's reader: what is wrong first; so many bytes; a number of so many bytes. -/
import Derived.Test.YtgaheodnembjiaaLibL
import Derived.Test.YtgaheodnembjiaaLibW
import Derived.Test.YtgaheodnembjiaaLibM
import Derived.Test.YtgaheodnembjiaaHdrM
import Derived.RegionTactic
import Derived.BigRegion
namespace Hdr
open Go.Rw
/-- A reader's state: where it is, what is wrong. -/
def rfail (is : Bool) (x : Int) (s : Nat × Int) : Nat × Int := if is && s.2 == 0 then (s.1, x) else s
def rtake (b : List UInt8) (n : Nat) (s : Nat × Int) : (Nat × Int) × List UInt8 :=
  if s.2 ≠ 0 then (s, []) else if b.length - s.1 < n then ((s.1, 3), []) else ((s.1 + n, 0), (b.drop s.1).take n)
def rnum (b : List UInt8) (n : Nat) (s : Nat × Int) : (Nat × Int) × Nat := ((rtake b n s).1, num (rtake b n s).2)
end Hdr
namespace Go.Proofs.Ytgaheodnembjiaa
open Go.RowKit Go.Rw Hdr
/-- A reader, as it lies. -/
def rd (vb : Value) (s : Nat × Int) : Array Value := #[vb, .int .i64 (s.1 : Nat), .int .i64 s.2]
theorem rd_0 (vb s) : (rd vb s)[0]? = some vb := rfl
theorem rd_1 (vb) (s : Nat × Int) : (rd vb s)[1]? = some (.int .i64 (s.1 : Nat)) := rfl
theorem rd_2 (vb) (s : Nat × Int) : (rd vb s)[2]? = some (.int .i64 s.2) := rfl
theorem rd_set1 (vb) (s : Nat × Int) (n : Nat) : (rd vb s).setIfInBounds 1 (.int .i64 (n : Nat)) = rd vb (n, s.2) := rfl
theorem rd_set2 (vb) (s : Nat × Int) (x : Int) : (rd vb s).setIfInBounds 2 (.int .i64 x) = rd vb (s.1, x) := rfl

theorem results_none {fn : Func} (h : fn.results = #[]) (tmps : Array Value) (P : Program) (w : World) : (results fn tmps).run P w = .ok (.tuple #[]) w := by simp [results, h]

set_option maxHeartbeats 400000 in
theorem fail_any (w : World) (B : Nat) (vb : Value) (s : Nat × Int) (is : Bool) (x : Int) (hr : row? w B = some (rd vb s)) :
    Calls Try.prog 33 #[.pointer (some ⟨B, 0, none⟩), .bool is, .int .i64 x] w fun e w' => e = .returned (.tuple #[]) ∧ Mut B w w' ∧ row? w' B = some (rd vb (rfail is x s)) := by
  obtain ⟨at_, er⟩ := s
  have c2 := row?_cell hr 2
  have f2 := row?_frozen hr 2
  rw [rd_2] at c2
  have HR := Lib.hid hr
  clear hr
  cases is
  · go_enter Try.func33, Try.ntmps33
    go_wp2_with fail
    exact ⟨rfl, .tuple #[], results_none rfl _ _ _, rfl, Mut.refl _ _, HR.out⟩
  · by_cases he : er = 0
    · subst he
      go_enter Try.func33, Try.ntmps33
      go_wp2_with fail
      exact ⟨rfl, .tuple #[], results_none rfl _ _ _, rfl, (Mut.refl _ _).setCell _ _ _, by rw [row?_setCell_eq HR.out]; rfl⟩
    · go_enter Try.func33, Try.ntmps33
      go_wp2_with fail
      exact ⟨rfl, .tuple #[], results_none rfl _ _ _, rfl, Mut.refl _ _, by rw [show rfail true x (at_, er) = (at_, er) by simp [rfail, he]]; exact HR.out⟩

set_option maxHeartbeats 1000000 in
theorem take_any (b : List UInt8) (w0 w : World) (B : Nat) (vb : Value) (s : Nat × Int) (n : Nat) (hb : b.length ≤ 1000000) (hn : n ≤ 1000000) (hat : s.1 ≤ b.length) (hs : Sl w0 vb b) (hw : Below w0.heap.size w0 w) (hB : w0.heap.size ≤ B) (hr : row? w B = some (rd vb s)) :
    Calls Try.prog 34 #[.pointer (some ⟨B, 0, none⟩), .int .i64 (n : Nat)] w fun e w' => ∃ v, e = .returned v ∧ Sl w0 v (rtake b n s).2 ∧ Mut B w w' ∧ row? w' B = some (rd vb (rtake b n s).1) := by
  obtain ⟨at_, er⟩ := s
  simp only [] at hat
  have hs0 := hs
  obtain ⟨ao, cap, rfl, hc, hnn, hp⟩ := hs0
  clear hp hnn
  have c0 := row?_cell hr 0
  have c1 := row?_cell hr 1
  rw [rd_0] at c0
  rw [rd_1] at c1
  have HR := Lib.hid hr
  clear hr
  go_enter Try.func34, Try.ntmps34
  go_wp2_with fail
  refine Rg.wp_region_plan (Rg.row [(0, 3), (1, 3), (2, 3), (3, 3), (4, 3), (5, 0), (6, 0), (7, 3), (8, 3), (9, 3), (10, 0), (11, 3), (12, 3)] [13]) [13] (by kernel_rfl) (by kernel_rfl) ?_
  simp only [Rg.row, Rg.PT.map, List.map_cons, List.map_nil, List.getD_cons_zero, List.getD_cons_succ]
  go_wp2_with (first
    | ((with_reducible refine Rg.plan_pure ?_ ?_ ?_); kernel_rfl; kernel_rfl; intro _ _)
    | ((with_reducible refine Rg.plan_take ?_ ?_ ?_); kernel_rfl; kernel_rfl; intro _ _)
    | ((with_reducible refine Rg.plan_keep ?_ ?_); kernel_rfl; intro K hK)
    | (refine hK _ _ (Rg.Keep.refl _) ?_; clear hK)
    | (refine hK _ _ (Rg.Keep.of_below (by assumption)) ?_; clear hK)
    | ((with_reducible refine Rg.plan_skip ?_ ?_); kernel_rfl)
    | (with_reducible refine Rg.plan_done ?_)
    | (with_reducible refine Rg.calm_normal ?_))
  have hd0 : row? w.drew B = some (rd (.slice ao b.length cap) (at_, er)) := (row?_drew _ _).trans HR.out
  refine (fail_any w.drew B _ (at_, er) _ 3 hd0).mono ?_
  rintro e w1 ⟨rfl, m1, r1⟩
  have m0 : Mut B w w1 := (Mut.refl _ _).drew.trans m1
  clear c0 c1 hd0 m1
  by_cases he : er = 0
  · subst he
    by_cases hsh : (b.length : Int) - (at_ : Nat) < (n : Nat)
    · have e1 : rfail (decide ((b.length : Int) - (at_ : Nat) < (n : Nat))) 3 (at_, 0) = (at_, 3) := by rw [decide_eq_true hsh]; rfl
      have e2 : rtake b n (at_, 0) = ((at_, 3), []) := by unfold rtake; rw [if_neg (by simp), if_pos (by simp only []; omega)]
      rw [e1] at r1
      have c2 := row?_cell r1 2
      rw [rd_2] at c2
      have R1 := Lib.hid r1
      clear r1 e1
      go_wp2_with (first
        | ((with_reducible refine Rg.plan_pure ?_ ?_ ?_); kernel_rfl; kernel_rfl; intro _ _)
        | ((with_reducible refine Rg.plan_take ?_ ?_ ?_); kernel_rfl; kernel_rfl; intro _ _)
        | ((with_reducible refine Rg.plan_keep ?_ ?_); kernel_rfl; intro K hK)
        | (refine hK _ _ (Rg.Keep.refl _) ?_; clear hK)
        | (refine hK _ _ (Rg.Keep.of_below (by assumption)) ?_; clear hK)
        | ((with_reducible refine Rg.plan_skip ?_ ?_); kernel_rfl)
        | (with_reducible refine Rg.plan_done ?_)
        | (with_reducible refine Rg.calm_normal ?_))
      go_ret
      rw [e2]
      exact ⟨_, rfl, Sl.nil _, m0, R1.out⟩
    · have e1 : rfail (decide ((b.length : Int) - (at_ : Nat) < (n : Nat))) 3 (at_, 0) = (at_, 0) := by rw [decide_eq_false hsh]; rfl
      have e2 : rtake b n (at_, 0) = ((at_ + n, 0), (b.drop at_).take n) := by unfold rtake; rw [if_neg (by simp), if_neg (by simp only []; omega)]
      rw [e1] at r1
      have c0 := row?_cell r1 0
      have c1 := row?_cell r1 1
      have c2 := row?_cell r1 2
      have f1 := row?_frozen r1 1
      rw [rd_0] at c0
      rw [rd_1] at c1
      rw [rd_2] at c2
      have R1 := Lib.hid r1
      clear r1 e1
      go_wp2_with (first
        | ((with_reducible refine Rg.plan_pure ?_ ?_ ?_); kernel_rfl; kernel_rfl; intro _ _)
        | ((with_reducible refine Rg.plan_take ?_ ?_ ?_); kernel_rfl; kernel_rfl; intro _ _)
        | ((with_reducible refine Rg.plan_keep ?_ ?_); kernel_rfl; intro K hK)
        | (refine hK _ _ (Rg.Keep.refl _) ?_; clear hK)
        | (refine hK _ _ (Rg.Keep.of_below (by assumption)) ?_; clear hK)
        | ((with_reducible refine Rg.plan_skip ?_ ?_); kernel_rfl)
        | (with_reducible refine Rg.plan_done ?_)
        | (with_reducible refine Rg.calm_normal ?_))
      have r2 : row? (w1.setCell ⟨B, 1, none⟩ (.int .i64 ((at_ : Int) + n))) B = some (rd (.slice ao b.length cap) (at_ + n, 0)) := by rw [row?_setCell_eq R1.out, ← Int.natCast_add]; rfl
      have m2 : Mut B w (w1.setCell ⟨B, 1, none⟩ (.int .i64 ((at_ : Int) + n))) := m0.setCell _ _ _
      clear c0 c1 c2 f1 R1 m0
      generalize (w1.setCell ⟨B, 1, none⟩ (.int .i64 ((at_ : Int) + n))) = w2 at *
      have c0 := row?_cell r2 0
      have c1 := row?_cell r2 1
      rw [rd_0] at c0
      rw [rd_1] at c1
      have R2 := Lib.hid r2
      clear r2
      have hcut : ∀ W, (Instr.sliceAt 23 (.slice ao b.length cap) (some (.int .i64 (at_ : Nat))) (some (.int .i64 ((at_ : Int) + n))) none).run Try.prog W = .ok (.slice (cutA ao at_ cap) n (cap - at_)) W := fun W => by
        rw [cut_lh TB W _ _ _ _ _ _ _ (by omega) (by omega) (by omega), Int.toNat_natCast, show ((at_ : Int) + n).toNat - at_ = n by omega]
      have hsc := hs.cut at_ (at_ + n) (by omega) (by omega)
      rw [Nat.add_sub_cancel_left, List.drop_take, Nat.add_sub_cancel_left] at hsc
      go_wp2_with fail
      refine Rg.wp_region_plan (Rg.row [(0, 3), (1, 3), (2, 3), (3, 0), (4, 3), (5, 3), (6, 3), (7, 0), (8, 3), (9, 3), (10, 3), (11, 3), (12, 3), (13, 0), (14, 3), (15, 3)] []) [] (by kernel_rfl) (by kernel_rfl) ?_
      simp only [Rg.row, Rg.PT.map, List.map_nil, List.getD_cons_zero, List.getD_cons_succ]
      go_wp2_with (first
        | ((with_reducible refine Rg.plan_pure ?_ ?_ ?_); kernel_rfl; kernel_rfl; intro _ _)
        | ((with_reducible refine Rg.plan_take ?_ ?_ ?_); kernel_rfl; kernel_rfl; intro _ _)
        | ((with_reducible refine Rg.plan_keep ?_ ?_); kernel_rfl; intro K hK)
        | (refine hK _ _ (Rg.Keep.refl _) ?_; clear hK)
        | (refine hK _ _ (Rg.Keep.of_below (by assumption)) ?_; clear hK)
        | ((with_reducible refine Rg.plan_skip ?_ ?_); kernel_rfl)
        | (with_reducible refine Rg.plan_done ?_)
        | (with_reducible refine Rg.calm_normal ?_))
      go_ret
      rw [e2]
      exact ⟨_, rfl, hsc, m2.drew, (row?_drew _ _).trans R2.out⟩
  · have e1 : rfail (decide ((b.length : Int) - (at_ : Nat) < (n : Nat))) 3 (at_, er) = (at_, er) := by simp [rfail, he]
    have e2 : rtake b n (at_, er) = ((at_, er), []) := by unfold rtake; rw [if_pos (by simpa using he)]
    rw [e1] at r1
    have c2 := row?_cell r1 2
    rw [rd_2] at c2
    have R1 := Lib.hid r1
    clear r1 e1
    go_wp2_with (first
      | ((with_reducible refine Rg.plan_pure ?_ ?_ ?_); kernel_rfl; kernel_rfl; intro _ _)
      | ((with_reducible refine Rg.plan_take ?_ ?_ ?_); kernel_rfl; kernel_rfl; intro _ _)
      | ((with_reducible refine Rg.plan_keep ?_ ?_); kernel_rfl; intro K hK)
      | (refine hK _ _ (Rg.Keep.refl _) ?_; clear hK)
      | (refine hK _ _ (Rg.Keep.of_below (by assumption)) ?_; clear hK)
      | ((with_reducible refine Rg.plan_skip ?_ ?_); kernel_rfl)
      | (with_reducible refine Rg.plan_done ?_)
      | (with_reducible refine Rg.calm_normal ?_))
    go_ret
    rw [e2]
    exact ⟨_, rfl, Sl.nil _, m0, R1.out⟩

/-- The number that the first bytes tell. -/
theorem num_take_succ (l : List UInt8) (k : Nat) (h : k < l.length) : num (l.take (k + 1)) = num (l.take k) * 256 + n8 (nth l k) := by
  unfold num nth
  rw [List.take_add_one, List.foldl_append, List.getElem?_eq_getElem h]
  rfl
theorem fold_lt : ∀ (l : List UInt8) (x : Nat), l.foldl (fun n c => n * 256 + n8 c) x < (x + 1) * 256 ^ l.length
  | [], x => by simp
  | c :: l, x => by
    have h := fold_lt l (x * 256 + n8 c)
    have hc := n8_lt c
    rw [List.foldl_cons, List.length_cons, Nat.pow_succ]
    refine Nat.lt_of_lt_of_le h ?_
    rw [Nat.mul_comm (256 ^ l.length) 256, ← Nat.mul_assoc]
    exact Nat.mul_le_mul_right _ (by omega)
theorem num_lt (l : List UInt8) : num l < 256 ^ l.length := by
  have := fold_lt l 0
  simpa [num] using this
theorem num_step (x : Nat) (c : UInt8) (h : x < 72057594037927936) : n64 (shl64 (UInt64.ofNat x) 8 ||| Go.Rw.wide c) = x * 256 + n8 c := by
  have hc := n8_lt c
  have e1 : (shl64 (UInt64.ofNat x) 8).toNat = x <<< 8 := by rw [← n64, n64_shl64, n64_ofNat _ (by omega), Nat.shiftLeft_eq]; omega
  have e3 : (Go.Rw.wide c).toNat = n8 c := by rw [← n64, n64_wide]
  show (shl64 (UInt64.ofNat x) 8 ||| Go.Rw.wide c).toNat = _
  rw [UInt64.toNat_or, e1, e3, ← Nat.shiftLeft_add_eq_or_of_lt (by omega), Nat.shiftLeft_eq]
attribute [local go_sem ↓] shift_shl64

set_option maxHeartbeats 1000000 in
theorem rnumber_any (b : List UInt8) (w0 w : World) (B : Nat) (vb : Value) (s : Nat × Int) (n : Nat) (hb : b.length ≤ 1000000) (hn : n ≤ 4) (hat : s.1 ≤ b.length) (hs : Sl w0 vb b) (hw : Below w0.heap.size w0 w) (hB : w0.heap.size ≤ B) (hr : row? w B = some (rd vb s)) :
    Calls Try.prog 32 #[.pointer (some ⟨B, 0, none⟩), .int .i64 (n : Nat)] w fun e w' => e = .returned (.int .u64 ((rnum b n s).2 : Nat)) ∧ Mut B w w' ∧ row? w' B = some (rd vb (rnum b n s).1) := by
  unfold rnum
  have ht := take_any b w0 w B vb s n hb (by omega) hat hs hw hB hr
  have hl : (rtake b n s).2.length ≤ 4 := by
    unfold rtake; repeat' split
    all_goals simp
    omega
  have hsz := hw.size
  clear hr hat
  generalize (rtake b n s).2 = l at *
  generalize (rtake b n s).1 = s' at *
  go_enter Try.func32, Try.ntmps32
  go_wp2_with fail
  refine ht.mono ?_
  rintro e w1 ⟨v, rfl, sv, m1, r1⟩
  clear ht
  have hw1 : Below w0.heap.size w0 w1 := hw.trans (m1.below hB hsz)
  have sv0 := sv
  obtain ⟨ao, cap, rfl, hc, hnn, hp⟩ := sv0
  have R1 := Lib.hid r1
  clear r1
  go_wp2_with fail
  go_loopw [4, 6, 11] (fun va vc v wr => ∃ k : Nat, k ≤ l.length ∧ va = .int .u64 (num (l.take k) : Nat) ∧ v = .int .i64 k ∧ w1 = wr) (fun _ _ v _ => l.length - (intOf v).toNat)
  case atStart => exact ⟨0, by omega, rfl, rfl, rfl⟩
  case round =>
    obtain ⟨k, hk, rfl, rfl, rfl⟩ := hrel
    by_cases hlt2 : k < l.length
    · obtain ⟨b1, off1, rfl, hcell1⟩ := hp (by omega)
      have c1 := below_cell hw1 (hcell1 k hlt2) (cell_lt (hcell1 k hlt2))
      have hx : num (l.take k) < 72057594037927936 := Nat.lt_of_lt_of_le (num_lt _) (Nat.le_trans (Nat.pow_le_pow_right (n := 256) (by decide) (by rw [List.length_take]; omega : (l.take k).length ≤ 4)) (by decide))
      have hst := num_step (num (l.take k)) (nth l k) hx
      rw [← num_take_succ l k hlt2] at hst
      obtain ⟨X, hX⟩ : ∃ X : UInt64, X = UInt64.ofNat (num (l.take k)) := ⟨_, rfl⟩
      have hq : num (l.take k) = n64 X := by rw [hX]; exact (n64_ofNat _ (by omega)).symm
      rw [← hX] at hst
      rw [hq]
      have HS := Lib.hid hst
      clear hq hX hx hst
      have HC := Lib.hid hcell1
      clear hcell1
      go_wp2_with fail
      go_roundw
      case rel => exact ⟨k + 1, by omega, by rw [← HS.out], by go_num, by first | rfl | trivial⟩
      case measure => simp [intOf]; omega
    · obtain rfl : k = l.length := by omega
      rw [List.take_length]
      go_wp2_with fail
      go_ret
      exact ⟨rfl, m1, R1.out⟩
end Go.Proofs.Ytgaheodnembjiaa
