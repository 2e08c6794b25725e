/- HdrM; HdrW2; HdrG. -/
import Derived.Test.YtjlpppnpdgenfaaMvb1
import Derived.Test.YtjlpppnpdgenfaaMvb2
import Derived.Test.YtjlpppnpdgenfaaMvbLibW
import Derived.Test.YtjlpppnpdgenfaaMvbLibM
import Derived.RegionTactic
import Derived.BigRegion
section
namespace Hdr
open Go.Rw
def cutD (d : Nat) : Nat := if d ≤ 128 then 1 else if d ≤ 32768 then 2 else if d ≤ 8388608 then 3 else 4
def cut (num acked : Nat) (any : Bool) : Nat :=
 if any then (if num < acked then 1 else cutD (num - acked)) else cutD (if num + 1 < 18446744073709551616 then num + 1 else num)
theorem cutD_range (d : Nat) : 1 ≤ cutD d ∧ cutD d ≤ 4 := by
 unfold cutD
 repeat' split
 all_goals omega
theorem cut_range (num acked : Nat) (any : Bool) : 1 ≤ cut num acked any ∧ cut num acked any ≤ 4 := by
 unfold cut
 repeat' split
 all_goals first | omega | exact cutD_range _
def fullW (c W next : Nat) : Nat :=
 let o := next / W * W + c % W
 if o + W / 2 ≤ next ∧ o < 4611686018427387904 - W then o + W else if next + W / 2 < o ∧ W ≤ o then o - W else o
def wide (n : Int) : Nat := if n = 1 then 256 else if n = 2 then 65536 else if n = 3 then 16777216 else 4294967296
def full (c : Nat) (n : Int) (largest : Nat) (any : Bool) : Nat :=
 if n < 1 ∨ 4 < n ∨ 4611686018427387903 < largest then 0 else fullW c (wide n) (if any then largest + 1 else 0)
theorem fullW_back {c W next num : Nat} (hW : W = 256 ∨ W = 65536 ∨ W = 16777216 ∨ W = 4294967296) (h1 : next ≤ num) (h2 : num < next + W / 2) (h3 : num < 4611686018427387904) (h4 : c % W = num % W) : fullW c W next = num := by
 unfold fullW
 rw [h4]
 rcases hW with rfl | rfl | rfl | rfl
 all_goals
  simp only []
  repeat' split
  all_goals omega
theorem wide_cut (d : Nat) : wide (cutD d : Nat) = 256 ∨ wide (cutD d : Nat) = 65536 ∨ wide (cutD d : Nat) = 16777216 ∨ wide (cutD d : Nat) = 4294967296 := by
 unfold cutD
 repeat' split
 all_goals simp [wide]
theorem wide_big (d : Nat) (h : d ≤ 1073741824) : d ≤ wide (cutD d : Nat) / 2 := by
 unfold cutD
 repeat' split
 all_goals simp [wide]; try omega
theorem full_back {c num acked largest : Nat} (hd : num ≤ acked + 1073741824) (ha : acked ≤ largest) (hl : largest < num) (hn : num < 4611686018427387904) (hc : c % wide (cut num acked true : Nat) = num % wide (cut num acked true : Nat)) :
  full c (cut num acked true : Nat) largest true = num := by
 have e : cut num acked true = cutD (num - acked) := by unfold cut; rw [if_pos rfl, if_neg (by omega)]
 rw [e] at hc ⊢
 have hr := cutD_range (num - acked)
 have hw := wide_big (num - acked) (by omega)
 unfold full
 rw [if_neg (by omega), if_pos rfl]
 exact fullW_back (wide_cut _) (by omega) (by omega) hn hc
theorem cut_least {num acked : Nat} (h : acked ≤ num) : cut num acked true = 1 ∨ (cut num acked true = 2 ∧ 256 < 2 * (num - acked)) ∨ (cut num acked true = 3 ∧ 65536 < 2 * (num - acked)) ∨ (cut num acked true = 4 ∧ 16777216 < 2 * (num - acked)) := by
 unfold cut
 rw [if_pos rfl, if_neg (by omega)]
 unfold cutD
 repeat' split
 all_goals omega
def be (n many : Nat) : List UInt8 := (List.range many).map fun k => UInt8.ofNat (n / 256 ^ (many - 1 - k))
theorem be_length (n many : Nat) : (be n many).length = many := by simp [be]
def num (b : List UInt8) : Nat := b.foldl (fun n c => n * 256 + n8 c) 0
end Hdr

end
section
namespace Hdr
open Go.Rw
def rfail (is : Bool) (x : Int) (s : Nat × Int) : Nat × Int := if is && s.2 == 0 then (s.1, x) else s
def rtake (b : List UInt8) (n : Nat) (s : Nat × Int) : (Nat × Int) × List UInt8 :=
 if s.2 ≠ 0 then (s, []) else if b.length - s.1 < n then ((s.1, 3), []) else ((s.1 + n, 0), (b.drop s.1).take n)
def rnum (b : List UInt8) (n : Nat) (s : Nat × Int) : (Nat × Int) × Nat := ((rtake b n s).1, num (rtake b n s).2)
end Hdr
namespace Go.Proofs.Ytjlpppnpdgenfaa
open Go.RowKit Go.Rw Hdr
def rd (vb : Value) (s : Nat × Int) : Array Value := #[vb, .int .i64 (s.1 : Nat), .int .i64 s.2]
theorem rd_0 (vb s) : (rd vb s)[0]? = some vb := rfl
theorem rd_1 (vb) (s : Nat × Int) : (rd vb s)[1]? = some (.int .i64 (s.1 : Nat)) := rfl
theorem rd_2 (vb) (s : Nat × Int) : (rd vb s)[2]? = some (.int .i64 s.2) := rfl
theorem results_none {fn : Func} (h : fn.results = #[]) (tmps : Array Value) (P : Program) (w : World) : (results fn tmps).run P w = .ok (.tuple #[]) w := by simp [results, h]
set_option maxRecDepth 100000 in
set_option maxHeartbeats 400000 in
theorem fail_any (w : World) (B : Nat) (vb : Value) (s : Nat × Int) (is : Bool) (x : Int) (hr : row? w B = some (rd vb s)) :
  Calls Try.prog 60 #[.pointer (some ⟨B, 0, none⟩), .bool is, .int .i64 x] w fun e w' => e = .returned (.tuple #[]) ∧ Mut B w w' ∧ row? w' B = some (rd vb (rfail is x s)) := by
 obtain ⟨at_, er⟩ := s
 have c2 := row?_cell hr 2
 have f2 := row?_frozen hr 2
 rw [rd_2] at c2
 have HR := Lib.hid hr
 clear hr
 cases is
 ·go_enter Try.func60, Try.ntmps60
  go_wp2_with fail
  exact ⟨rfl, .tuple #[], results_none rfl _ _ _, rfl, Mut.refl _ _, HR.out⟩
 ·by_cases he : er = 0
  ·subst he
   go_enter Try.func60, Try.ntmps60
   go_wp2_with fail
   exact ⟨rfl, .tuple #[], results_none rfl _ _ _, rfl, (Mut.refl _ _).setCell _ _ _, by rw [row?_setCell_eq HR.out]; rfl⟩
  ·go_enter Try.func60, Try.ntmps60
   go_wp2_with fail
   exact ⟨rfl, .tuple #[], results_none rfl _ _ _, rfl, Mut.refl _ _, by rw [show rfail true x (at_, er) = (at_, er) by simp [rfail, he]]; exact HR.out⟩
set_option maxRecDepth 100000 in
set_option maxHeartbeats 1000000 in
theorem take_any (b : List UInt8) (w0 w : World) (B : Nat) (vb : Value) (s : Nat × Int) (n : Nat) (hb : b.length ≤ 1000000) (hn : n ≤ 1000000) (hat : s.1 ≤ b.length) (hs : Sl w0 vb b) (hw : Below w0.heap.size w0 w) (hB : w0.heap.size ≤ B) (hr : row? w B = some (rd vb s)) :
  Calls Try.prog 61 #[.pointer (some ⟨B, 0, none⟩), .int .i64 (n : Nat)] w fun e w' => ∃ v, e = .returned v ∧ Sl w0 v (rtake b n s).2 ∧ Mut B w w' ∧ row? w' B = some (rd vb (rtake b n s).1) := by
 obtain ⟨at_, er⟩ := s
 simp only [] at hat
 have hs0 := hs
 obtain ⟨ao, cap, rfl, hc, hnn, hp⟩ := hs0
 clear hp hnn
 have c0 := row?_cell hr 0
 have c1 := row?_cell hr 1
 rw [rd_0] at c0
 rw [rd_1] at c1
 have HR := Lib.hid hr
 clear hr
 go_enter Try.func61, Try.ntmps61
 go_wp2_with fail
 refine Rg.wp_region_plan (Rg.row [(0, 3), (1, 3), (2, 3), (3, 3), (4, 3), (5, 0), (6, 0), (7, 3), (8, 3), (9, 3), (10, 0), (11, 3), (12, 3)] [13]) [13] (by kernel_rfl) (by kernel_rfl) ?_
 simp only [Rg.row, Rg.PT.map, List.map_cons, List.map_nil, List.getD_cons_zero, List.getD_cons_succ]
 go_wp2_with (first
  |(with_reducible refine Rg.plan_pure ?_ ?_ ?_); kernel_rfl; kernel_rfl; intro _ _|(with_reducible refine Rg.plan_take ?_ ?_ ?_); kernel_rfl; kernel_rfl; intro _ _|(with_reducible refine Rg.plan_keep ?_ ?_); kernel_rfl; intro K hK|refine hK _ _ (Rg.Keep.refl _) ?_; clear hK|refine hK _ _ (Rg.Keep.of_below (by assumption)) ?_; clear hK|(with_reducible refine Rg.plan_skip ?_ ?_); kernel_rfl|(with_reducible refine Rg.plan_done ?_)|(with_reducible refine Rg.calm_normal ?_))
 have hd0 : row? w.drew B = some (rd (.slice ao b.length cap) (at_, er)) := (row?_drew _ _).trans HR.out
 refine (fail_any w.drew B _ (at_, er) _ 3 hd0).mono ?_
 rintro e w1 ⟨rfl, m1, r1⟩
 have m0 : Mut B w w1 := (Mut.refl _ _).drew.trans m1
 clear c0 c1 hd0 m1
 by_cases he : er = 0
 ·subst he
  by_cases hsh : (b.length : Int) - (at_ : Nat) < (n : Nat)
  ·have e1 : rfail (decide ((b.length : Int) - (at_ : Nat) < (n : Nat))) 3 (at_, 0) = (at_, 3) := by rw [decide_eq_true hsh]; rfl
   have e2 : rtake b n (at_, 0) = ((at_, 3), []) := by unfold rtake; rw [if_neg (by simp), if_pos (by simp only []; omega)]
   rw [e1] at r1
   have c2 := row?_cell r1 2
   rw [rd_2] at c2
   have R1 := Lib.hid r1
   clear r1 e1
   go_wp2_with (first
    |(with_reducible refine Rg.plan_pure ?_ ?_ ?_); kernel_rfl; kernel_rfl; intro _ _|(with_reducible refine Rg.plan_take ?_ ?_ ?_); kernel_rfl; kernel_rfl; intro _ _|(with_reducible refine Rg.plan_keep ?_ ?_); kernel_rfl; intro K hK|refine hK _ _ (Rg.Keep.refl _) ?_; clear hK|refine hK _ _ (Rg.Keep.of_below (by assumption)) ?_; clear hK|(with_reducible refine Rg.plan_skip ?_ ?_); kernel_rfl|(with_reducible refine Rg.plan_done ?_)|(with_reducible refine Rg.calm_normal ?_))
   go_ret
   rw [e2]
   exact ⟨_, rfl, Sl.nil _, m0, R1.out⟩
  ·have e1 : rfail (decide ((b.length : Int) - (at_ : Nat) < (n : Nat))) 3 (at_, 0) = (at_, 0) := by rw [decide_eq_false hsh]; rfl
   have e2 : rtake b n (at_, 0) = ((at_ + n, 0), (b.drop at_).take n) := by unfold rtake; rw [if_neg (by simp), if_neg (by simp only []; omega)]
   rw [e1] at r1
   have c0 := row?_cell r1 0
   have c1 := row?_cell r1 1
   have c2 := row?_cell r1 2
   have f1 := row?_frozen r1 1
   rw [rd_0] at c0
   rw [rd_1] at c1
   rw [rd_2] at c2
   have R1 := Lib.hid r1
   clear r1 e1
   go_wp2_with (first
    |(with_reducible refine Rg.plan_pure ?_ ?_ ?_); kernel_rfl; kernel_rfl; intro _ _|(with_reducible refine Rg.plan_take ?_ ?_ ?_); kernel_rfl; kernel_rfl; intro _ _|(with_reducible refine Rg.plan_keep ?_ ?_); kernel_rfl; intro K hK|refine hK _ _ (Rg.Keep.refl _) ?_; clear hK|refine hK _ _ (Rg.Keep.of_below (by assumption)) ?_; clear hK|(with_reducible refine Rg.plan_skip ?_ ?_); kernel_rfl|(with_reducible refine Rg.plan_done ?_)|(with_reducible refine Rg.calm_normal ?_))
   have r2 : row? (w1.setCell ⟨B, 1, none⟩ (.int .i64 ((at_ : Int) + n))) B = some (rd (.slice ao b.length cap) (at_ + n, 0)) := by rw [row?_setCell_eq R1.out, ← Int.natCast_add]; rfl
   have m2 : Mut B w (w1.setCell ⟨B, 1, none⟩ (.int .i64 ((at_ : Int) + n))) := m0.setCell _ _ _
   clear c0 c1 c2 f1 R1 m0
   generalize (w1.setCell ⟨B, 1, none⟩ (.int .i64 ((at_ : Int) + n))) = w2 at *
   have c0 := row?_cell r2 0
   have c1 := row?_cell r2 1
   rw [rd_0] at c0
   rw [rd_1] at c1
   have R2 := Lib.hid r2
   clear r2
   have hcut : ∀ W, (Instr.sliceAt 27 (.slice ao b.length cap) (some (.int .i64 (at_ : Nat))) (some (.int .i64 ((at_ : Int) + n))) none).run Try.prog W = .ok (.slice (cutA ao at_ cap) n (cap - at_)) W := fun W => by
    rw [cut_lh TB W _ _ _ _ _ _ _ (by omega) (by omega) (by omega), Int.toNat_natCast, show ((at_ : Int) + n).toNat - at_ = n by omega]
   have hsc := hs.cut at_ (at_ + n) (by omega) (by omega)
   rw [Nat.add_sub_cancel_left, List.drop_take, Nat.add_sub_cancel_left] at hsc
   go_wp2_with fail
   refine Rg.wp_region_plan (Rg.row [(0, 3), (1, 3), (2, 3), (3, 0), (4, 3), (5, 3), (6, 3), (7, 0), (8, 3), (9, 3), (10, 3), (11, 3), (12, 3), (13, 0), (14, 3), (15, 3)] []) [] (by kernel_rfl) (by kernel_rfl) ?_
   simp only [Rg.row, Rg.PT.map, List.map_nil, List.getD_cons_zero, List.getD_cons_succ]
   go_wp2_with (first
    |(with_reducible refine Rg.plan_pure ?_ ?_ ?_); kernel_rfl; kernel_rfl; intro _ _|(with_reducible refine Rg.plan_take ?_ ?_ ?_); kernel_rfl; kernel_rfl; intro _ _|(with_reducible refine Rg.plan_keep ?_ ?_); kernel_rfl; intro K hK|refine hK _ _ (Rg.Keep.refl _) ?_; clear hK|refine hK _ _ (Rg.Keep.of_below (by assumption)) ?_; clear hK|(with_reducible refine Rg.plan_skip ?_ ?_); kernel_rfl|(with_reducible refine Rg.plan_done ?_)|(with_reducible refine Rg.calm_normal ?_))
   go_ret
   rw [e2]
   exact ⟨_, rfl, hsc, m2.drew, (row?_drew _ _).trans R2.out⟩
 ·have e1 : rfail (decide ((b.length : Int) - (at_ : Nat) < (n : Nat))) 3 (at_, er) = (at_, er) := by simp [rfail, he]
  have e2 : rtake b n (at_, er) = ((at_, er), []) := by unfold rtake; rw [if_pos (by simpa using he)]
  rw [e1] at r1
  have c2 := row?_cell r1 2
  rw [rd_2] at c2
  have R1 := Lib.hid r1
  clear r1 e1
  go_wp2_with (first
   |(with_reducible refine Rg.plan_pure ?_ ?_ ?_); kernel_rfl; kernel_rfl; intro _ _|(with_reducible refine Rg.plan_take ?_ ?_ ?_); kernel_rfl; kernel_rfl; intro _ _|(with_reducible refine Rg.plan_keep ?_ ?_); kernel_rfl; intro K hK|refine hK _ _ (Rg.Keep.refl _) ?_; clear hK|refine hK _ _ (Rg.Keep.of_below (by assumption)) ?_; clear hK|(with_reducible refine Rg.plan_skip ?_ ?_); kernel_rfl|(with_reducible refine Rg.plan_done ?_)|(with_reducible refine Rg.calm_normal ?_))
  go_ret
  rw [e2]
  exact ⟨_, rfl, Sl.nil _, m0, R1.out⟩
theorem num_take_succ (l : List UInt8) (k : Nat) (h : k < l.length) : num (l.take (k + 1)) = num (l.take k) * 256 + n8 (nth l k) := by
 unfold num nth
 rw [List.take_add_one, List.foldl_append, List.getElem?_eq_getElem h]
 rfl
theorem fold_lt : ∀ (l : List UInt8) (x : Nat), l.foldl (fun n c => n * 256 + n8 c) x < (x + 1) * 256 ^ l.length
 | [], x => by simp
 | c :: l, x => by
  have h := fold_lt l (x * 256 + n8 c)
  have hc := n8_lt c
  rw [List.foldl_cons, List.length_cons, Nat.pow_succ]
  refine Nat.lt_of_lt_of_le h ?_
  rw [Nat.mul_comm (256 ^ l.length) 256, ← Nat.mul_assoc]
  exact Nat.mul_le_mul_right _ (by omega)
theorem num_lt (l : List UInt8) : num l < 256 ^ l.length := by
 have := fold_lt l 0
 simpa [num] using this
theorem num_step (x : Nat) (c : UInt8) (h : x < 72057594037927936) : n64 (shl64 (UInt64.ofNat x) 8 ||| Go.Rw.wide c) = x * 256 + n8 c := by
 have hc := n8_lt c
 have e1 : (shl64 (UInt64.ofNat x) 8).toNat = x <<< 8 := by rw [← n64, n64_shl64, n64_ofNat _ (by omega), Nat.shiftLeft_eq]; omega
 have e3 : (Go.Rw.wide c).toNat = n8 c := by rw [← n64, n64_wide]
 show (shl64 (UInt64.ofNat x) 8 ||| Go.Rw.wide c).toNat = _
 rw [UInt64.toNat_or, e1, e3, ← Nat.shiftLeft_add_eq_or_of_lt (by omega), Nat.shiftLeft_eq]
attribute [local go_sem ↓] shift_shl64
set_option maxRecDepth 100000 in
set_option maxHeartbeats 1000000 in
theorem rnumber_any (b : List UInt8) (w0 w : World) (B : Nat) (vb : Value) (s : Nat × Int) (n : Nat) (hb : b.length ≤ 1000000) (hn : n ≤ 4) (hat : s.1 ≤ b.length) (hs : Sl w0 vb b) (hw : Below w0.heap.size w0 w) (hB : w0.heap.size ≤ B) (hr : row? w B = some (rd vb s)) :
  Calls Try.prog 59 #[.pointer (some ⟨B, 0, none⟩), .int .i64 (n : Nat)] w fun e w' => e = .returned (.int .u64 ((rnum b n s).2 : Nat)) ∧ Mut B w w' ∧ row? w' B = some (rd vb (rnum b n s).1) := by
 unfold rnum
 have ht := take_any b w0 w B vb s n hb (by omega) hat hs hw hB hr
 have hl : (rtake b n s).2.length ≤ 4 := by
  unfold rtake; repeat' split
  all_goals simp
  omega
 have hsz := hw.size
 clear hr hat
 generalize (rtake b n s).2 = l at *
 generalize (rtake b n s).1 = s' at *
 go_enter Try.func59, Try.ntmps59
 go_wp2_with fail
 refine ht.mono ?_
 rintro e w1 ⟨v, rfl, sv, m1, r1⟩
 clear ht
 have hw1 : Below w0.heap.size w0 w1 := hw.trans (m1.below hB hsz)
 have sv0 := sv
 obtain ⟨ao, cap, rfl, hc, hnn, hp⟩ := sv0
 have R1 := Lib.hid r1
 clear r1
 go_wp2_with fail
 go_loopw [4, 6, 11] (fun va vc v wr => ∃ k : Nat, k ≤ l.length ∧ va = .int .u64 (num (l.take k) : Nat) ∧ v = .int .i64 k ∧ w1 = wr) (fun _ _ v _ => l.length - (intOf v).toNat)
 case atStart => exact ⟨0, by omega, rfl, rfl, rfl⟩
 case round =>
  obtain ⟨k, hk, rfl, rfl, rfl⟩ := hrel
  by_cases hlt2 : k < l.length
  ·obtain ⟨b1, off1, rfl, hcell1⟩ := hp (by omega)
   have c1 := below_cell hw1 (hcell1 k hlt2) (cell_lt (hcell1 k hlt2))
   have hx : num (l.take k) < 72057594037927936 := Nat.lt_of_lt_of_le (num_lt _) (Nat.le_trans (Nat.pow_le_pow_right (n := 256) (by decide) (by rw [List.length_take]; omega : (l.take k).length ≤ 4)) (by decide))
   have hst := num_step (num (l.take k)) (nth l k) hx
   rw [← num_take_succ l k hlt2] at hst
   obtain ⟨X, hX⟩ : ∃ X : UInt64, X = UInt64.ofNat (num (l.take k)) := ⟨_, rfl⟩
   have hq : num (l.take k) = n64 X := by rw [hX]; exact (n64_ofNat _ (by omega)).symm
   rw [← hX] at hst
   rw [hq]
   have HS := Lib.hid hst
   clear hq hX hx hst
   have HC := Lib.hid hcell1
   clear hcell1
   go_wp2_with fail
   go_roundw
   case rel => exact ⟨k + 1, by omega, by rw [← HS.out], by go_num, by first | rfl | trivial⟩
   case measure => simp [intOf]; omega
  ·obtain rfl : k = l.length := by omega
   rw [List.take_length]
   go_wp2_with fail
   go_ret
   exact ⟨rfl, m1, R1.out⟩
end Go.Proofs.Ytjlpppnpdgenfaa

end
section
namespace Hdr
open Go.Rw
structure Hd where
 long : Bool
 kind : Int
 ver : Nat
 dst : List UInt8
 src : List UInt8
 tok : List UInt8
 spin : Bool
 phase : Bool
 num : Nat
 nl : Int
def hd0 : Hd := ⟨false, 0, 0, [], [], [], false, false, 0, 0⟩
def vmany (c : UInt8) : Nat := 2 ^ (n8 c / 64)
def vnum (l : List UInt8) : Nat := ((l.take (vmany (nth l 0))).drop 1).foldl (fun n c => n * 256 + n8 c) (n8 (nth l 0) % 64)
def vget (l : List UInt8) : Nat × Nat × Int := if l.length = 0 ∨ l.length < vmany (nth l 0) then (0, 0, 3) else (vnum l, vmany (nth l 0), 0)
theorem vmany_pos (c : UInt8) : 1 ≤ vmany c := Nat.one_le_two_pow
theorem vmany_le (c : UInt8) : vmany c ≤ 8 := by
 have h := n8_lt c
 have : n8 c / 64 ≤ 3 := by omega
 exact Nat.le_trans (Nat.pow_le_pow_right (by decide) this) (by decide)
theorem vget_many (l : List UInt8) : (vget l).2.1 ≤ l.length := by
 unfold vget; split <;> simp; omega
theorem vget_many8 (l : List UInt8) : (vget l).2.1 ≤ 8 := by
 unfold vget; split <;> simp; exact vmany_le _
def rvar (b : List UInt8) (s : Nat × Int) : (Nat × Int) × Nat :=
 if s.2 ≠ 0 then (s, 0) else ((s.1 + (vget (b.drop s.1)).2.1, (vget (b.drop s.1)).2.2), (vget (b.drop s.1)).1)
def rid (b : List UInt8) (least most : Nat) (s : Nat × Int) : (Nat × Int) × List UInt8 :=
 rtake b (rnum b 1 s).2 (rfail (decide ((rnum b 1 s).2 < least) || decide (most < (rnum b 1 s).2)) 5 (rnum b 1 s).1)
def aKind (kind : Int) (s : Nat × Int) : Nat × Int := rfail (decide (kind ≠ 0) && decide (kind ≠ 2)) 5 s
def aVer (b : List UInt8) (kind : Int) (s : Nat × Int) := rnum b 4 (aKind kind s)
def aDst (b : List UInt8) (kind : Int) (s : Nat × Int) := rid b 8 8 (aVer b kind s).1
def aSrc (b : List UInt8) (kind : Int) (s : Nat × Int) := rid b 0 20 (aDst b kind s).1
def aTokN (b : List UInt8) (kind : Int) (s : Nat × Int) := rvar b (aSrc b kind s).1
def aTok (b : List UInt8) (kind : Int) (s : Nat × Int) : (Nat × Int) × List UInt8 :=
 if kind = 0 then rtake b (min (aTokN b kind s).2 100) (rfail (decide (100 < (aTokN b kind s).2)) 5 (aTokN b kind s).1) else ((aSrc b kind s).1, [])
def aRest (b : List UInt8) (kind : Int) (s : Nat × Int) := rvar b (aTok b kind s).1
def lNum (b : List UInt8) (kind : Int) (nl : Nat) (s : Nat × Int) := rnum b nl (rfail (decide ((aRest b kind s).2 < nl)) 5 (aRest b kind s).1)
def lEnd (b : List UInt8) (kind : Int) (nl : Nat) (s : Nat × Int) : (Nat × Int) × Nat :=
 if (lNum b kind nl s).1.2 ≠ 0 then ((lNum b kind nl s).1, 0)
 else (rfail (decide (b.length - (lNum b kind nl s).1.1 < (aRest b kind s).2 - nl)) 3 (lNum b kind nl s).1, min ((aRest b kind s).2 - nl) b.length)
def gByte (b : List UInt8) : UInt8 := UInt8.ofNat (rnum b 1 (0, 0)).2
def gFirst (b : List UInt8) : Nat × Int := rfail (gByte b &&& 64 == 0) 5 (rnum b 1 (0, 0)).1
def gKind (b : List UInt8) : Int := (n8 (gByte b) / 16 % 4 : Nat)
def gNl (b : List UInt8) : Nat := n8 (gByte b &&& 3) + 1
def gShort (b : List UInt8) : (Nat × Int) × List UInt8 := rtake b 8 (rfail (gByte b &&& 24 != 0) 5 (gFirst b))
def gShortN (b : List UInt8) : (Nat × Int) × Nat := rnum b (gNl b) (gShort b).1
def gLong (b : List UInt8) : Nat × Int := rfail (gByte b &&& 12 != 0) 5 (gFirst b)
def gAll (b : List UInt8) : (Nat × Int) × Hd × Nat :=
 if (gByte b &&& 128 != 0) = true then
  ((lEnd b (gKind b) (gNl b) (gLong b)).1, ⟨true, gKind b, (aVer b (gKind b) (gLong b)).2, (aDst b (gKind b) (gLong b)).2, (aSrc b (gKind b) (gLong b)).2, (aTok b (gKind b) (gLong b)).2, false, false, (lNum b (gKind b) (gNl b) (gLong b)).2, gNl b⟩, (lEnd b (gKind b) (gNl b) (gLong b)).2)
 else ((gShortN b).1, ⟨false, 0, 0, (gShort b).2, [], [], gByte b &&& 32 != 0, gByte b &&& 4 != 0, (gShortN b).2, gNl b⟩, b.length - (gShortN b).1.1)
def get (b : List UInt8) : Hd × Nat × Nat × Int :=
 if (gAll b).1.2 ≠ 0 then (hd0, 0, 0, (gAll b).1.2) else ((gAll b).2.1, (gAll b).1.1, (gAll b).2.2, 0)
def lPart (b : List UInt8) (at_ : Nat) (eight : Bool) : Except Int (List UInt8 × Nat) :=
 if b.length ≤ at_ then .error 3
 else if (eight = true ∧ n8 (nth b at_) ≠ 8) ∨ 20 < n8 (nth b at_) then .error 5
 else if b.length < at_ + 1 + n8 (nth b at_) then .error 3
 else .ok ((b.drop (at_ + 1)).take (n8 (nth b at_)), at_ + 1 + n8 (nth b at_))
def lTok (b : List UInt8) (kind : Nat) (at_ : Nat) : Except Int (List UInt8 × Nat) :=
 if kind ≠ 0 then .ok ([], at_)
 else if (vget (b.drop at_)).2.2 ≠ 0 then .error (vget (b.drop at_)).2.2
 else if 100 < (vget (b.drop at_)).1 then .error 5
 else if b.length < at_ + (vget (b.drop at_)).2.1 + (vget (b.drop at_)).1 then .error 3
 else .ok ((b.drop (at_ + (vget (b.drop at_)).2.1)).take (vget (b.drop at_)).1, at_ + (vget (b.drop at_)).2.1 + (vget (b.drop at_)).1)
def lTail (b : List UInt8) (h : Hd) (at_ : Nat) : Except Int (Hd × Nat × Nat) :=
 if (vget (b.drop at_)).2.2 ≠ 0 then .error (vget (b.drop at_)).2.2
 else .ok (h, at_ + (vget (b.drop at_)).2.1, min (vget (b.drop at_)).1 1073741824)
def lead (b : List UInt8) (masked : Bool) : Except Int (Hd × Nat × Nat) :=
 if b.length = 0 then .error 3
 else if nth b 0 &&& 64 = 0 then .error 5
 else if nth b 0 &&& 128 = 0 then
  if nth b 0 &&& 24 ≠ 0 ∧ masked = false then .error 5
  else if b.length < 9 then .error 3
  else .ok (⟨false, 0, 0, (b.drop 1).take 8, [], [], nth b 0 &&& 32 != 0, nth b 0 &&& 4 != 0, 0, (n8 (nth b 0 &&& 3) + 1 : Nat)⟩, 9, b.length - 9)
 else if n8 (nth b 0) / 16 % 4 % 2 = 1 ∨ (nth b 0 &&& 12 ≠ 0 ∧ masked = false) then .error 5
 else if b.length < 5 then .error 3
 else match lPart b 5 true with
  | .error e => .error e
  | .ok (d, at1) => match lPart b at1 false with
   | .error e => .error e
   | .ok (s, at2) => match lTok b (n8 (nth b 0) / 16 % 4) at2 with
    | .error e => .error e
    | .ok (t, at3) => lTail b ⟨true, (n8 (nth b 0) / 16 % 4 : Nat), num ((b.drop 1).take 4), d, s, t, false, false, 0, (n8 (nth b 0 &&& 3) + 1 : Nat)⟩ at3
def rget (b : List UInt8) : Hd × Nat × Nat × Int :=
 match lead b false with
 | .error e => (hd0, 0, 0, e)
 | .ok (h, at_, told) =>
  if h.long = true ∧ (told : Int) < h.nl then (hd0, 0, 0, 5)
  else if b.length < at_ + h.nl.toNat then (hd0, 0, 0, 3)
  else if b.length < at_ + told then (hd0, 0, 0, 3)
  else ({ h with num := num ((b.drop at_).take h.nl.toNat) }, at_ + h.nl.toNat, told - h.nl.toNat, 0)
theorem rfail_bad {is : Bool} {x : Int} {s : Nat × Int} (h : s.2 ≠ 0) : rfail is x s = s := by simp [rfail, h]
theorem rfail_ok {x : Int} {s : Nat × Int} : rfail false x s = s := by simp [rfail]
theorem rfail_yes {x : Int} {at_ : Nat} : rfail true x (at_, 0) = (at_, x) := by simp [rfail]
theorem rtake_bad {b n} {s : Nat × Int} (h : s.2 ≠ 0) : rtake b n s = (s, []) := by simp [rtake, h]
theorem rnum_bad {b n} {s : Nat × Int} (h : s.2 ≠ 0) : rnum b n s = (s, 0) := by simp [rnum, rtake_bad h, num]
theorem rvar_bad {b} {s : Nat × Int} (h : s.2 ≠ 0) : rvar b s = (s, 0) := by simp [rvar, h]
theorem rid_bad {b l m} {s : Nat × Int} (h : s.2 ≠ 0) : rid b l m s = (s, []) := by
 unfold rid; rw [rnum_bad h, rfail_bad h, rtake_bad h]
theorem rtake_short {b : List UInt8} {n at_ : Nat} (h : b.length - at_ < n) : rtake b n (at_, 0) = ((at_, 3), []) := by simp [rtake, h]
theorem rtake_ok {b : List UInt8} {n at_ : Nat} (h : n ≤ b.length - at_) : rtake b n (at_, 0) = ((at_ + n, 0), (b.drop at_).take n) := by
 unfold rtake; rw [if_neg (by simp), if_neg (by simp only []; omega)]
theorem rnum_short {b : List UInt8} {n at_ : Nat} (h : b.length - at_ < n) : rnum b n (at_, 0) = ((at_, 3), 0) := by simp [rnum, rtake_short h, num]
theorem rnum_ok {b : List UInt8} {n at_ : Nat} (h : n ≤ b.length - at_) : rnum b n (at_, 0) = ((at_ + n, 0), num ((b.drop at_).take n)) := by simp [rnum, rtake_ok h]
theorem take1 {b : List UInt8} {at_ : Nat} (h : at_ < b.length) : (b.drop at_).take 1 = [nth b at_] := by
 rw [List.drop_eq_getElem_cons h, List.take_succ_cons, List.take_zero]; simp [nth, h]
theorem rnum1 {b : List UInt8} {at_ : Nat} (h : at_ < b.length) : rnum b 1 (at_, 0) = ((at_ + 1, 0), n8 (nth b at_)) := by
 rw [rnum_ok (by omega), take1 h]; simp [num]
theorem rid_part (b : List UInt8) (at_ : Nat) (eight : Bool) :
  match lPart b at_ eight with
  | .error e => e ≠ 0 ∧ (rid b (if eight then 8 else 0) (if eight then 8 else 20) (at_, 0)).1.2 = e
  | .ok (d, at1) => rid b (if eight then 8 else 0) (if eight then 8 else 20) (at_, 0) = ((at1, 0), d) := by
 unfold lPart rid
 by_cases h : b.length ≤ at_
 ·rw [if_pos h, rnum_short (by omega), rfail_bad (by simp), rtake_bad (by simp)]
  exact ⟨by decide, rfl⟩
 ·rw [if_neg h, rnum1 (by omega)]
  by_cases h2 : (eight = true ∧ n8 (nth b at_) ≠ 8) ∨ 20 < n8 (nth b at_)
  ·rw [if_pos h2]
   have e : (decide (n8 (nth b at_) < if eight = true then 8 else 0) || decide ((if eight = true then 8 else 20) < n8 (nth b at_))) = true := by
    cases eight <;> simp at h2 ⊢ <;> omega
   rw [e, rfail_yes, rtake_bad (by simp)]
   exact ⟨by decide, rfl⟩
  ·rw [if_neg h2]
   have e : (decide (n8 (nth b at_) < if eight = true then 8 else 0) || decide ((if eight = true then 8 else 20) < n8 (nth b at_))) = false := by
    cases eight <;> simp at h2 ⊢ <;> omega
   rw [e, rfail_ok]
   by_cases h3 : b.length < at_ + 1 + n8 (nth b at_)
   ·rw [if_pos h3, rtake_short (by omega)]
    exact ⟨by decide, rfl⟩
   ·rw [if_neg h3, rtake_ok (by omega)]
theorem rvar_ok {b : List UInt8} {at_ : Nat} (h : (vget (b.drop at_)).2.2 = 0) : rvar b (at_, 0) = ((at_ + (vget (b.drop at_)).2.1, 0), (vget (b.drop at_)).1) := by
 unfold rvar; rw [if_neg (by simp)]; simp only [h]
theorem rvar_fail {b : List UInt8} {at_ : Nat} (_h : (vget (b.drop at_)).2.2 ≠ 0) : (rvar b (at_, 0)).1.2 = (vget (b.drop at_)).2.2 := by
 unfold rvar; rw [if_neg (by simp)]
end Hdr

end
