/- The walks of a number that tells its own length, and of package header's reader with it: a name, a number. -/
import Derived.Test.YtipniobgijdlkaaHdrW2
import Derived.Test.YtipniobgijdlkaaHdrG
import Derived.Test.YtipniobgijdlkaaLibP
import Derived.RegionTactic
import Derived.BigRegion
namespace Go.Proofs.Ytipniobgijdlkaa
open Go.RowKit Go.Rw Hdr
attribute [local go_sem ↓] shift_shl8 shift_shr8 shift_shl64 shift_shr64
theorem shl1_0 : Op.shift .shl .i64 1 .u8 ((0 : Nat) : Int) = pure (.int .i64 1) := by kernel_rfl
theorem shl1_1 : Op.shift .shl .i64 1 .u8 ((1 : Nat) : Int) = pure (.int .i64 2) := by kernel_rfl
theorem shl1_2 : Op.shift .shl .i64 1 .u8 ((2 : Nat) : Int) = pure (.int .i64 4) := by kernel_rfl
theorem shl1_3 : Op.shift .shl .i64 1 .u8 ((3 : Nat) : Int) = pure (.int .i64 8) := by kernel_rfl
theorem shl1_many (c : UInt8) : Op.shift .shl .i64 1 .u8 (n8 (shr8 c 6) : Nat) = pure (.int .i64 (vmany c : Nat)) := by
  have h : n8 (shr8 c 6) = n8 c / 64 := n8_shr8 c 6
  have hc := n8_lt c
  have h3 : n8 c / 64 < 4 := by omega
  unfold vmany
  rw [h]
  generalize n8 c / 64 = k at h3
  match k, h3 with
  | 0, _ => exact shl1_0
  | 1, _ => exact shl1_1
  | 2, _ => exact shl1_2
  | 3, _ => exact shl1_3
theorem and63 (c : UInt8) : n8 (c &&& 63) = n8 c % 64 := by
  unfold n8
  rw [UInt8.toNat_and]
  exact Nat.and_two_pow_sub_one_eq_mod (n := 6) c.toNat
attribute [local go_sem ↓] shl1_many
/-- The number of the first bytes, from a beginning on. -/
def foldN (x : Nat) (l : List UInt8) : Nat := l.foldl (fun n c => n * 256 + n8 c) x
theorem foldN_succ (x : Nat) (l : List UInt8) (k : Nat) (h : k < l.length) : foldN x (l.take (k + 1)) = foldN x (l.take k) * 256 + n8 (nth l k) := by
  unfold foldN nth
  rw [List.take_add_one, List.foldl_append, List.getElem?_eq_getElem h]
  rfl
theorem foldN_lt {x k : Nat} (l : List UInt8) (hx : x < 64) (hk : (l.take k).length ≤ 6) : foldN x (l.take k) < 72057594037927936 := by
  refine Nat.lt_of_lt_of_le (fold_lt (l.take k) x) ?_
  exact Nat.le_trans (Nat.mul_le_mul (show x + 1 ≤ 64 by omega) (Nat.pow_le_pow_right (n := 256) (by decide) hk)) (by decide)

set_option maxRecDepth 20000 in
set_option maxHeartbeats 1000000 in
theorem vget_any (l : List UInt8) (hl : l.length ≤ 1000000) (v : Value) (w : World) (hs : Sl w v l) :
    Calls Try.prog 72 #[v] w fun e w' => e = .returned (.tuple #[.int .u64 ((vget l).1 : Nat), .int .i64 ((vget l).2.1 : Nat), .int .i64 (vget l).2.2]) ∧ w = w' := by
  have hs0 := hs
  obtain ⟨ao, cap, rfl, hc, hnn, hp⟩ := hs0
  clear hnn
  by_cases h0 : l.length = 0
  · have e : vget l = (0, 0, 3) := by unfold vget; rw [if_pos (.inl h0)]
    rw [e]
    go_enter Try.func72, Try.ntmps72
    go_wp2_with fail
    go_ret3
    exact ⟨rfl, rfl⟩
  obtain ⟨b, off, rfl, hcell⟩ := hp (by omega)
  clear hp
  have c0 : w.cell? ⟨b, off, none⟩ = some (.int .u8 (n8 (nth l 0) : Nat)) := by have := hcell 0 (by omega); simpa using this
  have hmp := vmany_pos (nth l 0)
  have hm8 := vmany_le (nth l 0)
  by_cases hsh : l.length < vmany (nth l 0)
  · have e : vget l = (0, 0, 3) := by unfold vget; rw [if_pos (.inr hsh)]
    rw [e]
    clear hcell hs
    go_enter Try.func72, Try.ntmps72
    go_wp2_with fail
    go_ret3
    exact ⟨rfl, rfl⟩
  have e : vget l = (vnum l, vmany (nth l 0), 0) := by unfold vget; rw [if_neg (by omega)]
  rw [e]
  unfold vnum
  have hsc := hs.cut 1 (vmany (nth l 0)) hmp (by omega)
  have hTl : ((l.take (vmany (nth l 0))).drop 1).length = vmany (nth l 0) - 1 := by simp; omega
  generalize (l.take (vmany (nth l 0))).drop 1 = T at hsc hTl ⊢
  obtain ⟨c, hcdef⟩ : ∃ c, c = nth l 0 := ⟨_, rfl⟩
  rw [← hcdef] at c0 hmp hm8 hsh e hsc hTl ⊢
  have hx := and63 c
  have hx64 : n8 (c &&& 63) < 64 := by omega
  rw [← hx]
  show Calls _ _ _ _ fun e w' => e = .returned (.tuple #[.int .u64 ((foldN (n8 (c &&& 63)) T : Nat) : Int), _, _]) ∧ _
  generalize hmany : vmany c = m at *
  have hcut : ∀ W, (Instr.sliceAt 25 (.slice (some ⟨b, off, none⟩) l.length cap) (some (.int .i64 1)) (some (.int .i64 (m : Nat))) none).run Try.prog W = .ok (.slice (cutA (some ⟨b, off, none⟩) 1 cap) (m - 1) (cap - 1)) W := fun W => by
    rw [cut_lh TB W _ _ _ _ _ _ _ (by decide) (by omega) (by omega), Int.toNat_natCast]; rfl
  obtain ⟨ao2, cap2, hv2, hc2, hnn2, hp2⟩ := hsc
  injection hv2 with hv2a hv2b hv2c
  clear hs hcell e hnn2 hcdef
  have HX := Lib.hid hx64
  have HTL := Lib.hid hTl
  clear hx hx64 hTl
  go_enter Try.func72, Try.ntmps72
  go_wp2_with fail
  go_loopw [6, 8, 36] (fun va vc v wr => ∃ k : Nat, k ≤ T.length ∧ va = .int .u64 (foldN (n8 (c &&& 63)) (T.take k) : Nat) ∧ v = .int .i64 k ∧ w = wr) (fun _ _ v _ => T.length - (intOf v).toNat)
  case atStart => exact ⟨0, by omega, by rw [n64_wide]; rfl, rfl, rfl⟩
  case round =>
    obtain ⟨k, hk, rfl, rfl, rfl⟩ := hrel
    by_cases hlt2 : k < T.length
    · obtain ⟨b1, off1, rfl, hcell1⟩ := hp2 (by omega)
      have c1 := hcell1 k hlt2
      have hxk := foldN_lt (x := n8 (c &&& 63)) (k := k) T HX.out (by have := HTL.out; rw [List.length_take]; omega)
      have hst := num_step (foldN (n8 (c &&& 63)) (T.take k)) (nth T k) hxk
      rw [← foldN_succ _ T k hlt2] at hst
      obtain ⟨X, hX⟩ : ∃ X : UInt64, X = UInt64.ofNat (foldN (n8 (c &&& 63)) (T.take k)) := ⟨_, rfl⟩
      have hq : foldN (n8 (c &&& 63)) (T.take k) = n64 X := by rw [hX]; exact (n64_ofNat _ (by omega)).symm
      rw [← hX] at hst
      rw [hq]
      have HS := Lib.hid hst
      clear hq hX hxk hst hcell1
      go_wp2_with fail
      go_roundw
      case rel => exact ⟨k + 1, by omega, by rw [← HS.out], by go_num, by first | rfl | trivial⟩
      case measure => simp [intOf]; omega
    · obtain rfl : k = T.length := by omega
      rw [List.take_length]
      go_wp2_with fail
      go_ret3
      exact ⟨rfl, rfl⟩
end Go.Proofs.Ytipniobgijdlkaa
