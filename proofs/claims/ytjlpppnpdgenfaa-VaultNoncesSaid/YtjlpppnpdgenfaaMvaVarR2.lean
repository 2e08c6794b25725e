/- The walks of the document's numbers, laid in the least bytes and read; of its parts of a header. -/
import Derived.Test.YtjlpppnpdgenfaaMvaVarR
import Derived.Test.YtjlpppnpdgenfaaMva4
import Derived.Test.YtjlpppnpdgenfaaMva2
namespace Hdr
open Go Go.Rw
theorem vlen_fit {n : Nat} (h : n < 4611686018427387904) : (vlen n = 1 ∨ vlen n = 2 ∨ vlen n = 4 ∨ vlen n = 8) ∧ n < 64 * 256 ^ (vlen n - 1) := by
  unfold vlen
  repeat' split
  all_goals first | omega | (refine ⟨by omega, ?_⟩; simp only [Nat.reduceSub, Nat.reducePow, Nat.reduceMul]; omega)
end Hdr
namespace Go.Proofs.Ytjlpppnpdgenfaa
open Go.RowKit Go.Rw Hdr
theorem rin_any (many : Nat) (hm : many = 1 ∨ many = 2 ∨ many = 4 ∨ many = 8) (l : List UInt8) (n : Nat) (hl : l.length ≤ 1000000) (hn : n < 18446744073709551616) (hfit : n < 64 * 256 ^ (many - 1)) (v : Value) (w : World) (hs : Sl w v l) :
    Calls Try.prog 53 #[v, .int .u64 (n : Nat), .int .i64 (many : Nat)] w fun e w' => ∃ v', e = .returned v' ∧ w'.ownsRow w.heap.size 5 1 v' (l ++ vin n many).length ((l ++ vin n many).map bv) ∧ Below w.heap.size w w' := by
  rcases hm with rfl | rfl | rfl | rfl
  · exact rin_1 l n hl hn hfit v w hs
  · exact rin_2 l n hl hn hfit v w hs
  · exact rin_4 l n hl hn hfit v w hs
  · exact rin_8 l n hl hn hfit v w hs
set_option maxRecDepth 100000 in
set_option maxHeartbeats 1000000 in
theorem rput_any (l : List UInt8) (n : Nat) (hl : l.length ≤ 1000000) (hn : n < 4611686018427387904) (v : Value) (w : World) (hs : Sl w v l) :
    Calls Try.prog 52 #[v, .int .u64 (n : Nat)] w fun e w' => ∃ v', e = .returned v' ∧ w'.ownsRow w.heap.size 5 1 v' (l ++ vin n (vlen n)).length ((l ++ vin n (vlen n)).map bv) ∧ Below w.heap.size w w' := by
  have hv := fun W => rlen_any n (by omega) W
  have hp := fun W hs => rin_any (vlen n) (vlen_fit hn).1 l n hl (by omega) (vlen_fit hn).2 v W hs
  generalize vlen n = many at hv hp ⊢
  have HP := Lib.hid hp
  have HS := Lib.hid hs
  have HV := Lib.hid hv
  clear hv hp hs
  go_enter Try.func52, Try.ntmps52
  go_wp2_with fail
  refine (HV.out _).mono ?_
  rintro e w1 ⟨rfl, rfl⟩
  go_wp2_with fail
  refine (HP.out _ HS.out).mono ?_
  rintro e w2 ⟨v', rfl, o2, b2⟩
  have O2 := Lib.hid o2
  clear o2
  go_wp2_with fail
  go_ret
  exact ⟨_, rfl, O2.out, b2⟩
attribute [local go_sem ↓] shift_shl8 shift_shr8 shift_shl64 shift_shr64 shl1_many
set_option maxRecDepth 100000 in
set_option maxHeartbeats 1000000 in
theorem rvget_any (l : List UInt8) (hl : l.length ≤ 1000000) (v : Value) (w : World) (hs : Sl w v l) :
    Calls Try.prog 65 #[v] w fun e w' => e = .returned (.tuple #[.int .u64 ((vget l).1 : Nat), .int .i64 ((vget l).2.1 : Nat), .int .i64 (vget l).2.2]) ∧ w = w' := by
  have hs0 := hs
  obtain ⟨ao, cap, rfl, hc, hnn, hp⟩ := hs0
  clear hnn
  by_cases h0 : l.length = 0
  · have e : vget l = (0, 0, 3) := by unfold vget; rw [if_pos (.inl h0)]
    rw [e]
    go_enter Try.func65, Try.ntmps65
    go_wp2_with fail
    go_ret3
    exact ⟨rfl, rfl⟩
  obtain ⟨b, off, rfl, hcell⟩ := hp (by omega)
  clear hp
  have c0 : w.cell? ⟨b, off, none⟩ = some (.int .u8 (n8 (nth l 0) : Nat)) := by have := hcell 0 (by omega); simpa using this
  have hmp := vmany_pos (nth l 0)
  have hm8 := vmany_le (nth l 0)
  by_cases hsh : l.length < vmany (nth l 0)
  · have e : vget l = (0, 0, 3) := by unfold vget; rw [if_pos (.inr hsh)]
    rw [e]
    clear hcell hs
    go_enter Try.func65, Try.ntmps65
    go_wp2_with fail
    go_ret3
    exact ⟨rfl, rfl⟩
  have e : vget l = (vnum l, vmany (nth l 0), 0) := by unfold vget; rw [if_neg (by omega)]
  rw [e]
  unfold vnum
  have hTn : ∀ k, k + 1 < vmany (nth l 0) → nth ((l.take (vmany (nth l 0))).drop 1) k = nth l (k + 1) := by
    intro k hk
    unfold nth
    unfold nth at hk
    rw [List.getElem?_drop, List.getElem?_take, Nat.add_comm 1 k, if_pos hk]
  have hTl : ((l.take (vmany (nth l 0))).drop 1).length = vmany (nth l 0) - 1 := by simp; omega
  generalize (l.take (vmany (nth l 0))).drop 1 = T at hTn hTl ⊢
  obtain ⟨c, hcdef⟩ : ∃ c, c = nth l 0 := ⟨_, rfl⟩
  rw [← hcdef] at c0 hmp hm8 hsh e hTn hTl ⊢
  have hx := and63 c
  have hx64 : n8 (c &&& 63) < 64 := by omega
  rw [← hx]
  show Calls _ _ _ _ fun e w' => e = .returned (.tuple #[.int .u64 ((foldN (n8 (c &&& 63)) T : Nat) : Int), _, _]) ∧ _
  generalize hmany : vmany c = m at *
  clear hs e hcdef
  have HX := Lib.hid hx64
  have HTL := Lib.hid hTl
  have HTN := Lib.hid hTn
  have HCL := Lib.hid hcell
  clear hx hx64 hTl hTn hcell
  go_enter Try.func65, Try.ntmps65
  go_wp2_with fail
  go_loopw [6, 7] (fun va v wr => ∃ k i : Nat, i = k + 1 ∧ i ≤ m ∧ va = .int .u64 (foldN (n8 (c &&& 63)) (T.take k) : Nat) ∧ v = .int .i64 (i : Nat) ∧ w = wr) (fun _ v _ => m - (intOf v).toNat)
  case atStart => exact ⟨0, 1, rfl, hmp, by rw [n64_wide]; rfl, rfl, rfl⟩
  case round =>
    obtain ⟨k, i, hki, hk, rfl, rfl, rfl⟩ := hrel
    by_cases hlt2 : i < m
    · have hlk : k < T.length := by have := HTL.out; omega
      have c1 := HCL.out i (by omega)
      have hnt := HTN.out k (by omega)
      rw [← hki] at hnt
      rw [← hnt] at c1
      have hxk := foldN_lt (x := n8 (c &&& 63)) (k := k) T HX.out (by have := HTL.out; rw [List.length_take]; omega)
      have hst := num_step (foldN (n8 (c &&& 63)) (T.take k)) (nth T k) hxk
      rw [← foldN_succ _ T k hlk] at hst
      obtain ⟨X, hX⟩ : ∃ X : UInt64, X = UInt64.ofNat (foldN (n8 (c &&& 63)) (T.take k)) := ⟨_, rfl⟩
      have hq : foldN (n8 (c &&& 63)) (T.take k) = n64 X := by rw [hX]; exact (n64_ofNat _ (by omega)).symm
      rw [← hX] at hst
      rw [hq]
      have HS := Lib.hid hst
      have HKI := Lib.hid hki
      clear hq hX hxk hst hnt hki
      go_wp2_with fail
      go_roundw
      case rel => exact ⟨k + 1, i + 1, by have := HKI.out; omega, by omega, by rw [← HS.out], by go_num, by first | rfl | trivial⟩
      case measure => simp [intOf]; omega
    · obtain rfl : i = m := by omega
      have hk1 : T.length ≤ k := by have := HTL.out; omega
      rw [List.take_of_length_le hk1]
      go_wp2_with fail
      go_ret3
      exact ⟨rfl, rfl⟩
set_option maxRecDepth 100000 in
set_option maxHeartbeats 1000000 in
theorem rnumb_any (l : List UInt8) (hl : l.length ≤ 8) (v : Value) (w : World) (hs : Sl w v l) :
    Calls Try.prog 43 #[v] w fun e w' => e = .returned (.int .u64 (Hdr.num l : Nat)) ∧ w = w' := by
  obtain ⟨ao, cap, rfl, hc, hnn, hp⟩ := id hs
  clear hs hnn
  have HP := Lib.hid hp
  clear hp
  go_enter Try.func43, Try.ntmps43
  go_wp2_with fail
  go_loopw [3, 4] (fun va v wr => ∃ k : Nat, k ≤ l.length ∧ va = .int .u64 (Hdr.num (l.take k) : Nat) ∧ v = .int .i64 (k : Nat) ∧ w = wr) (fun _ v _ => l.length - (intOf v).toNat)
  case atStart => exact ⟨0, by omega, rfl, rfl, rfl⟩
  case round =>
    obtain ⟨k, hk, rfl, rfl, rfl⟩ := hrel
    by_cases hlt2 : k < l.length
    · obtain ⟨b, off, rfl, hcell⟩ := HP.out (by omega)
      have c1 := hcell k hlt2
      have hxk : Hdr.num (l.take k) < 72057594037927936 := Nat.lt_of_lt_of_le (num_lt (l.take k)) (Nat.le_trans (Nat.pow_le_pow_right (by decide : 0 < 256) (show (l.take k).length ≤ 7 by rw [List.length_take]; omega)) (by decide))
      have hst := num_step (Hdr.num (l.take k)) (nth l k) hxk
      rw [← num_take_succ l k hlt2] at hst
      obtain ⟨X, hX⟩ : ∃ X : UInt64, X = UInt64.ofNat (Hdr.num (l.take k)) := ⟨_, rfl⟩
      have hq : Hdr.num (l.take k) = n64 X := by rw [hX]; exact (n64_ofNat _ (by omega)).symm
      rw [← hX] at hst
      rw [hq]
      have HS := Lib.hid hst
      clear hq hX hxk hst hcell
      go_wp2_with fail
      go_roundw
      case rel => exact ⟨k + 1, by omega, by rw [← HS.out], by go_num, by first | rfl | trivial⟩
      case measure => simp [intOf]; omega
    · obtain rfl : k = l.length := by omega
      rw [List.take_length]
      go_wp2_with fail
      go_ret
      exact ⟨rfl, rfl⟩
theorem rbit5 (ok : Bool) (w : World) : Calls Try.prog 54 #[.bool ok, .int .i64 5] w fun e w' => e = .returned (.int .u8 (n8 (if ok then 32 else 0) : Nat)) ∧ w = w' := by
  cases ok
  all_goals go_enter Try.func54, Try.ntmps54
  all_goals go_wp2_with fail
  all_goals go_ret
  all_goals exact ⟨rfl, rfl⟩
theorem rbit2 (ok : Bool) (w : World) : Calls Try.prog 54 #[.bool ok, .int .i64 2] w fun e w' => e = .returned (.int .u8 (n8 (if ok then 4 else 0) : Nat)) ∧ w = w' := by
  cases ok
  all_goals go_enter Try.func54, Try.ntmps54
  all_goals go_wp2_with fail
  all_goals go_ret
  all_goals exact ⟨rfl, rfl⟩
theorem rpart_no (l : List UInt8) (hl : l.length ≤ 1000000) (at_ n : Nat) (ha : at_ ≤ 1000000) (hn : n ≤ 1000000) (h : l.length < at_ + n) (v : Value) (w : World) (hs : Sl w v l) :
    Calls Try.prog 64 #[v, .int .i64 (at_ : Nat), .int .i64 (n : Nat)] w fun e w' => e = .returned (.tuple #[.slice none 0 0, .bool false]) ∧ w = w' := by
  obtain ⟨ao, cap, rfl, hc, -, -⟩ := id hs
  have hw : wrap64 ((at_ : Int) + n) = at_ + n := by unfold wrap64; omega
  have hi : ((l.length : Nat) : Int) < at_ + n := by omega
  clear hs hc h ha hn hl
  go_enter Try.func64, Try.ntmps64
  go_wp2_with fail
  go_ret2
  exact ⟨rfl, rfl⟩
theorem rpart_ok (l : List UInt8) (hl : l.length ≤ 1000000) (at_ n : Nat) (ha : at_ ≤ 1000000) (hn : n ≤ 1000000) (h : at_ + n ≤ l.length) (v : Value) (w : World) (hs : Sl w v l) :
    Calls Try.prog 64 #[v, .int .i64 (at_ : Nat), .int .i64 (n : Nat)] w fun e w' => ∃ v', e = .returned (.tuple #[v', .bool true]) ∧ w'.ownsRow w.heap.size 5 1 v' ((l.drop at_).take n).length (((l.drop at_).take n).map bv) ∧ Below w.heap.size w w' := by
  obtain ⟨i0, hi, hz0, hz1, hz2⟩ := info_parts info8
  obtain ⟨ao, cap, rfl, hc, -, -⟩ := id hs
  have hw : wrap64 ((at_ : Int) + n) = at_ + n := by unfold wrap64; omega
  have hi' : ¬ ((l.length : Nat) : Int) < at_ + n := by omega
  have hsc := hs.cut at_ (at_ + n) (by omega) (by omega)
  have e : (l.take (at_ + n)).drop at_ = (l.drop at_).take n := by rw [List.drop_take, Nat.add_sub_cancel_left]
  rw [e, Nat.add_sub_cancel_left] at hsc
  have el : ((l.drop at_).take n).length = n := by simp; omega
  generalize (l.drop at_).take n = T at hsc el ⊢
  have hcut : ∀ W, (Instr.sliceAt 27 (.slice ao l.length cap) (some (.int .i64 (at_ : Nat))) (some (.int .i64 ((at_ : Int) + n))) none).run Try.prog W = .ok (.slice (cutA ao at_ cap) n (cap - at_)) W := fun W => by
    rw [show ((at_ : Int) + n) = ((at_ + n : Nat) : Int) from rfl, cut_lh TB W _ _ _ _ _ _ _ (by omega) (by omega) (by omega), Int.toNat_natCast, Int.toNat_natCast, Nat.add_sub_cancel_left]
  have HSC := Lib.hid hsc
  have HEL := Lib.hid el
  have HH := Lib.hid (And.intro hn hl)
  clear hs hsc e el h hc ha hn hl
  go_enter Try.func64, Try.ntmps64
  go_wp2_with (at_builtin; refine Classical.byContradiction ?_)
  intro hh; apply hh; clear hh
  refine app_sl rfl _ _ 27 rfl w.heap.size 5 i0 Try.underlying27 hi hz0 hz1 hz2 (.slice none 0 0) [] rfl (World.ownsRow_nil _ _ _ _) _ T rfl HSC.out (by have := HEL.out; have := HH.out.1; simp; omega) (Nat.le_refl _) ?_
  intro v' w' o g
  have b1 : Below w.heap.size w w' := (Below.refl _ _).grown g (Nat.le_refl _) (by intro k hk; cases hk)
  have O := Lib.hid o
  clear o g
  go_wp2_with fail
  go_ret2
  exact ⟨_, rfl, by simpa using O.out, b1⟩
end Go.Proofs.Ytjlpppnpdgenfaa
