/- The walks of package header's numbers, the document's likewise: how a number is cut, and found again. -/
import Derived.Test.YtjlpppnpdgenfaaMvb2
import Derived.Test.YtjlpppnpdgenfaaMvbLibW
import Derived.Test.YtjlpppnpdgenfaaMvb3
import Derived.RegionTactic
import Derived.BigRegion
namespace Go.Proofs.Ytjlpppnpdgenfaa
open Go.RowKit Go.Rw Hdr
attribute [local go_sem ↓] shift_shl8 shift_shr8 shift_shl64 shift_shr64
theorem sh7 : Op.shift .shl .u64 1 .i64 7 = pure (.int .u64 128) := by kernel_rfl
theorem sh15 : Op.shift .shl .u64 1 .i64 15 = pure (.int .u64 32768) := by kernel_rfl
theorem sh23 : Op.shift .shl .u64 1 .i64 23 = pure (.int .u64 8388608) := by kernel_rfl
theorem sh8 : Op.shift .shl .u64 1 .i64 8 = pure (.int .u64 256) := by kernel_rfl
theorem sh16 : Op.shift .shl .u64 1 .i64 16 = pure (.int .u64 65536) := by kernel_rfl
theorem sh24 : Op.shift .shl .u64 1 .i64 24 = pure (.int .u64 16777216) := by kernel_rfl
theorem sh32 : Op.shift .shl .u64 1 .i64 32 = pure (.int .u64 4294967296) := by kernel_rfl
attribute [local go_sem ↓] sh7 sh15 sh23 sh8 sh16 sh24 sh32
theorem cutD_1 {d : Nat} (h : d ≤ 128) : cutD d = 1 := if_pos h
theorem cutD_2 {d : Nat} (h : 128 < d) (h2 : d ≤ 32768) : cutD d = 2 := by unfold cutD; rw [if_neg (by omega), if_pos h2]
theorem cutD_3 {d : Nat} (h : 32768 < d) (h2 : d ≤ 8388608) : cutD d = 3 := by unfold cutD; rw [if_neg (by omega), if_neg (by omega), if_pos h2]
theorem cutD_4 {d : Nat} (h : 8388608 < d) : cutD d = 4 := by unfold cutD; rw [if_neg (by omega), if_neg (by omega), if_neg (by omega)]
set_option maxRecDepth 100000 in
set_option maxHeartbeats 1000000 in
theorem cut_any (num acked : Nat) (any : Bool) (h1 : num < 18446744073709551616) (h2 : acked < 18446744073709551616) (w : World) :
  Calls Try.prog 26 #[.int .u64 (num : Nat), .int .u64 (acked : Nat), .bool any] w fun e w' => e = .returned (.int .i64 (cut num acked any : Nat)) ∧ w = w' := by
 cases any
 ·by_cases hb : num + 1 < 18446744073709551616
  ·have hcut : cut num acked false = cutD (num + 1) := by unfold cut; rw [if_neg (by decide), if_pos (by omega)]
   go_enter Try.func26, Try.ntmps26
   go_wp2_with fail
   have e1 : ((num : Nat) : Int) + 1 = ((num + 1 : Nat) : Int) := by push_cast; rfl
   rw [e1]
   clear e1
   generalize num + 1 = d at *
   go_loopw [8] (fun v wr => ∃ k : Nat, (k = 1 ∨ (k = 2 ∧ 128 < d) ∨ (k = 3 ∧ 32768 < d) ∨ (k = 4 ∧ 8388608 < d)) ∧ v = .int .i64 k ∧ w = wr) (fun v _ => 4 - (intOf v).toNat)
   case atStart => exact ⟨1, Or.inl rfl, rfl, by first | rfl | trivial⟩
   case round =>
    obtain ⟨k, hk, rfl, rfl⟩ := hrel
    rcases hk with rfl | ⟨rfl, hk⟩ | ⟨rfl, hk⟩ | ⟨rfl, hk⟩
    ·by_cases hd : d ≤ 128
     ·go_wp2_with fail
      go_ret
      exact ⟨by rw [hcut, cutD_1 (by omega)]; rfl, by first | rfl | trivial⟩
     ·go_wp2_with fail
      go_roundw
      case rel => exact ⟨2, Or.inr (Or.inl ⟨rfl, by omega⟩), rfl, by first | rfl | trivial⟩
      case measure => simp [intOf]
    ·by_cases hd : d ≤ 32768
     ·go_wp2_with fail
      go_ret
      exact ⟨by rw [hcut, cutD_2 (by omega) (by omega)]; rfl, by first | rfl | trivial⟩
     ·go_wp2_with fail
      go_roundw
      case rel => exact ⟨3, Or.inr (Or.inr (Or.inl ⟨rfl, by omega⟩)), rfl, by first | rfl | trivial⟩
      case measure => simp [intOf]
    ·by_cases hd : d ≤ 8388608
     ·go_wp2_with fail
      go_ret
      exact ⟨by rw [hcut, cutD_3 (by omega) (by omega)]; rfl, by first | rfl | trivial⟩
     ·go_wp2_with fail
      go_roundw
      case rel => exact ⟨4, Or.inr (Or.inr (Or.inr ⟨rfl, by omega⟩)), rfl, by first | rfl | trivial⟩
      case measure => simp [intOf]
    ·go_wp2_with fail
     go_ret
     exact ⟨by rw [hcut, cutD_4 (by omega)]; rfl, by first | rfl | trivial⟩
  ·have hcut : cut num acked false = cutD num := by unfold cut; rw [if_neg (by decide), if_neg (by omega)]
   obtain rfl : num = 18446744073709551615 := by omega
   go_enter Try.func26, Try.ntmps26
   go_wp2_with fail
   go_loopw [8] (fun v wr => ∃ k : Nat, (k = 1 ∨ k = 2 ∨ k = 3 ∨ k = 4) ∧ v = .int .i64 k ∧ w = wr) (fun v _ => 4 - (intOf v).toNat)
   case atStart => exact ⟨1, Or.inl rfl, rfl, rfl⟩
   case round =>
    obtain ⟨k, hk, rfl, rfl⟩ := hrel
    rcases hk with rfl | rfl | rfl | rfl
    ·go_wp2_with fail
     go_roundw
     case rel => exact ⟨2, Or.inr (Or.inl rfl), rfl, by first | rfl | trivial⟩
     case measure => simp [intOf]
    ·go_wp2_with fail
     go_roundw
     case rel => exact ⟨3, Or.inr (Or.inr (Or.inl rfl)), rfl, by first | rfl | trivial⟩
     case measure => simp [intOf]
    ·go_wp2_with fail
     go_roundw
     case rel => exact ⟨4, Or.inr (Or.inr (Or.inr rfl)), rfl, by first | rfl | trivial⟩
     case measure => simp [intOf]
    ·go_wp2_with fail
     go_ret
     exact ⟨by (try rw [hcut]); rw [cutD_4 (by omega)]; rfl, by first | rfl | trivial⟩
 ·by_cases hb : num < acked
  ·have hcut : cut num acked true = 1 := by unfold cut; rw [if_pos rfl, if_pos hb]
   go_enter Try.func26, Try.ntmps26
   go_wp2_with fail
   go_ret
   exact ⟨by rw [hcut]; rfl, by first | rfl | trivial⟩
  ·obtain ⟨d, rfl⟩ : ∃ d, num = acked + d := ⟨num - acked, by omega⟩
   have hcut : cut (acked + d) acked true = cutD d := by unfold cut; rw [if_pos rfl, if_neg (by omega), Nat.add_sub_cancel_left]
   go_enter Try.func26, Try.ntmps26
   go_wp2_with fail
   go_loopw [8] (fun v wr => ∃ k : Nat, (k = 1 ∨ (k = 2 ∧ 128 < d) ∨ (k = 3 ∧ 32768 < d) ∨ (k = 4 ∧ 8388608 < d)) ∧ v = .int .i64 k ∧ w = wr) (fun v _ => 4 - (intOf v).toNat)
   case atStart => exact ⟨1, Or.inl rfl, rfl, by first | rfl | trivial⟩
   case round =>
    obtain ⟨k, hk, rfl, rfl⟩ := hrel
    rcases hk with rfl | ⟨rfl, hk⟩ | ⟨rfl, hk⟩ | ⟨rfl, hk⟩
    ·by_cases hd : d ≤ 128
     ·go_wp2_with fail
      go_ret
      exact ⟨by rw [hcut, cutD_1 (by omega)]; rfl, by first | rfl | trivial⟩
     ·go_wp2_with fail
      go_roundw
      case rel => exact ⟨2, Or.inr (Or.inl ⟨rfl, by omega⟩), rfl, by first | rfl | trivial⟩
      case measure => simp [intOf]
    ·by_cases hd : d ≤ 32768
     ·go_wp2_with fail
      go_ret
      exact ⟨by rw [hcut, cutD_2 (by omega) (by omega)]; rfl, by first | rfl | trivial⟩
     ·go_wp2_with fail
      go_roundw
      case rel => exact ⟨3, Or.inr (Or.inr (Or.inl ⟨rfl, by omega⟩)), rfl, by first | rfl | trivial⟩
      case measure => simp [intOf]
    ·by_cases hd : d ≤ 8388608
     ·go_wp2_with fail
      go_ret
      exact ⟨by rw [hcut, cutD_3 (by omega) (by omega)]; rfl, by first | rfl | trivial⟩
     ·go_wp2_with fail
      go_roundw
      case rel => exact ⟨4, Or.inr (Or.inr (Or.inr ⟨rfl, by omega⟩)), rfl, by first | rfl | trivial⟩
      case measure => simp [intOf]
    ·go_wp2_with fail
     go_ret
     exact ⟨by rw [hcut, cutD_4 (by omega)]; rfl, by first | rfl | trivial⟩
theorem andn_aux (a : BitVec 64) (k : Nat) : a &&& ~~~(BitVec.allOnes 64 >>> (64 - k)) = (a >>> k) <<< k := by
 apply BitVec.eq_of_getLsbD_eq
 intro i hi
 simp only [BitVec.getLsbD_and, BitVec.getLsbD_not, BitVec.getLsbD_ushiftRight, BitVec.getLsbD_shiftLeft, BitVec.getLsbD_allOnes, hi, decide_true, Bool.true_and]
 by_cases h : i < k
 ·have : 64 - k + i < 64 := by omega
  simp [h, this]
 ·have : ¬ (64 - k + i < 64) := by omega
  simp [h, this, Nat.add_sub_cancel' (Nat.le_of_not_lt h)]
theorem u64_ofInt_toNat (x : Int) : (UInt64.ofInt x).toNat = (x % 18446744073709551616).toNat := by
 simp [UInt64.ofInt]
 omega
theorem and_255 (x : Int) : bits .and .u64 x 255 = x % 256 := by
 rw [bits_and64]
 have e : n64 (UInt64.ofInt x &&& UInt64.ofInt 255) = (x % 18446744073709551616).toNat &&& (2 ^ 8 - 1) := by
  show (UInt64.ofInt x &&& UInt64.ofInt 255).toNat = _
  rw [UInt64.toNat_and, u64_ofInt_toNat]; rfl
 rw [e, Nat.and_two_pow_sub_one_eq_mod]
 omega
theorem andn_255 (x : Int) : bits .andNot .u64 x 255 = x % 18446744073709551616 / 256 * 256 := by
 have e : (BitVec.ofInt 64 x &&& ~~~ BitVec.ofInt 64 255) = ((BitVec.ofInt 64 x) >>> 8) <<< 8 := andn_aux (BitVec.ofInt 64 x) 8
 have e2 : ((BitVec.ofInt 64 x &&& ~~~ BitVec.ofInt 64 255).toNat : Int) = x % 18446744073709551616 / 256 * 256 := by
  rw [e, BitVec.toNat_shiftLeft, BitVec.toNat_ushiftRight, BitVec.toNat_ofInt, Nat.shiftRight_eq_div_pow, Nat.shiftLeft_eq]
  omega
 show IntKind.u64.wrap ((BitVec.ofInt 64 x &&& ~~~ BitVec.ofInt 64 255).toNat : Int) = _
 rw [e2]
 simp only [IntKind.wrap, IntKind.signed, IntKind.bits]
 simp
 omega
theorem or_255 (x y : Int) : bits .or .u64 (x % 18446744073709551616 / 256 * 256) (y % 256) = x % 18446744073709551616 / 256 * 256 + y % 256 := by
 rw [bits_or64]
 have e : n64 (UInt64.ofInt (x % 18446744073709551616 / 256 * 256) ||| UInt64.ofInt (y % 256)) = ((x % 18446744073709551616).toNat / 2 ^ 8) <<< 8 ||| (y % 256).toNat := by
  show (UInt64.ofInt _ ||| UInt64.ofInt _).toNat = _
  rw [UInt64.toNat_or, u64_ofInt_toNat, u64_ofInt_toNat, Nat.shiftLeft_eq]
  congr 1 <;> omega
 rw [e, ← Nat.shiftLeft_add_eq_or_of_lt (by omega), Nat.shiftLeft_eq]
 omega
theorem and_65535 (x : Int) : bits .and .u64 x 65535 = x % 65536 := by
 rw [bits_and64]
 have e : n64 (UInt64.ofInt x &&& UInt64.ofInt 65535) = (x % 18446744073709551616).toNat &&& (2 ^ 16 - 1) := by
  show (UInt64.ofInt x &&& UInt64.ofInt 65535).toNat = _
  rw [UInt64.toNat_and, u64_ofInt_toNat]; rfl
 rw [e, Nat.and_two_pow_sub_one_eq_mod]
 omega
theorem andn_65535 (x : Int) : bits .andNot .u64 x 65535 = x % 18446744073709551616 / 65536 * 65536 := by
 have e : (BitVec.ofInt 64 x &&& ~~~ BitVec.ofInt 64 65535) = ((BitVec.ofInt 64 x) >>> 16) <<< 16 := andn_aux (BitVec.ofInt 64 x) 16
 have e2 : ((BitVec.ofInt 64 x &&& ~~~ BitVec.ofInt 64 65535).toNat : Int) = x % 18446744073709551616 / 65536 * 65536 := by
  rw [e, BitVec.toNat_shiftLeft, BitVec.toNat_ushiftRight, BitVec.toNat_ofInt, Nat.shiftRight_eq_div_pow, Nat.shiftLeft_eq]
  omega
 show IntKind.u64.wrap ((BitVec.ofInt 64 x &&& ~~~ BitVec.ofInt 64 65535).toNat : Int) = _
 rw [e2]
 simp only [IntKind.wrap, IntKind.signed, IntKind.bits]
 simp
 omega
theorem or_65535 (x y : Int) : bits .or .u64 (x % 18446744073709551616 / 65536 * 65536) (y % 65536) = x % 18446744073709551616 / 65536 * 65536 + y % 65536 := by
 rw [bits_or64]
 have e : n64 (UInt64.ofInt (x % 18446744073709551616 / 65536 * 65536) ||| UInt64.ofInt (y % 65536)) = ((x % 18446744073709551616).toNat / 2 ^ 16) <<< 16 ||| (y % 65536).toNat := by
  show (UInt64.ofInt _ ||| UInt64.ofInt _).toNat = _
  rw [UInt64.toNat_or, u64_ofInt_toNat, u64_ofInt_toNat, Nat.shiftLeft_eq]
  congr 1 <;> omega
 rw [e, ← Nat.shiftLeft_add_eq_or_of_lt (by omega), Nat.shiftLeft_eq]
 omega
theorem and_16777215 (x : Int) : bits .and .u64 x 16777215 = x % 16777216 := by
 rw [bits_and64]
 have e : n64 (UInt64.ofInt x &&& UInt64.ofInt 16777215) = (x % 18446744073709551616).toNat &&& (2 ^ 24 - 1) := by
  show (UInt64.ofInt x &&& UInt64.ofInt 16777215).toNat = _
  rw [UInt64.toNat_and, u64_ofInt_toNat]; rfl
 rw [e, Nat.and_two_pow_sub_one_eq_mod]
 omega
theorem andn_16777215 (x : Int) : bits .andNot .u64 x 16777215 = x % 18446744073709551616 / 16777216 * 16777216 := by
 have e : (BitVec.ofInt 64 x &&& ~~~ BitVec.ofInt 64 16777215) = ((BitVec.ofInt 64 x) >>> 24) <<< 24 := andn_aux (BitVec.ofInt 64 x) 24
 have e2 : ((BitVec.ofInt 64 x &&& ~~~ BitVec.ofInt 64 16777215).toNat : Int) = x % 18446744073709551616 / 16777216 * 16777216 := by
  rw [e, BitVec.toNat_shiftLeft, BitVec.toNat_ushiftRight, BitVec.toNat_ofInt, Nat.shiftRight_eq_div_pow, Nat.shiftLeft_eq]
  omega
 show IntKind.u64.wrap ((BitVec.ofInt 64 x &&& ~~~ BitVec.ofInt 64 16777215).toNat : Int) = _
 rw [e2]
 simp only [IntKind.wrap, IntKind.signed, IntKind.bits]
 simp
 omega
theorem or_16777215 (x y : Int) : bits .or .u64 (x % 18446744073709551616 / 16777216 * 16777216) (y % 16777216) = x % 18446744073709551616 / 16777216 * 16777216 + y % 16777216 := by
 rw [bits_or64]
 have e : n64 (UInt64.ofInt (x % 18446744073709551616 / 16777216 * 16777216) ||| UInt64.ofInt (y % 16777216)) = ((x % 18446744073709551616).toNat / 2 ^ 24) <<< 24 ||| (y % 16777216).toNat := by
  show (UInt64.ofInt _ ||| UInt64.ofInt _).toNat = _
  rw [UInt64.toNat_or, u64_ofInt_toNat, u64_ofInt_toNat, Nat.shiftLeft_eq]
  congr 1 <;> omega
 rw [e, ← Nat.shiftLeft_add_eq_or_of_lt (by omega), Nat.shiftLeft_eq]
 omega
theorem and_4294967295 (x : Int) : bits .and .u64 x 4294967295 = x % 4294967296 := by
 rw [bits_and64]
 have e : n64 (UInt64.ofInt x &&& UInt64.ofInt 4294967295) = (x % 18446744073709551616).toNat &&& (2 ^ 32 - 1) := by
  show (UInt64.ofInt x &&& UInt64.ofInt 4294967295).toNat = _
  rw [UInt64.toNat_and, u64_ofInt_toNat]; rfl
 rw [e, Nat.and_two_pow_sub_one_eq_mod]
 omega
theorem andn_4294967295 (x : Int) : bits .andNot .u64 x 4294967295 = x % 18446744073709551616 / 4294967296 * 4294967296 := by
 have e : (BitVec.ofInt 64 x &&& ~~~ BitVec.ofInt 64 4294967295) = ((BitVec.ofInt 64 x) >>> 32) <<< 32 := andn_aux (BitVec.ofInt 64 x) 32
 have e2 : ((BitVec.ofInt 64 x &&& ~~~ BitVec.ofInt 64 4294967295).toNat : Int) = x % 18446744073709551616 / 4294967296 * 4294967296 := by
  rw [e, BitVec.toNat_shiftLeft, BitVec.toNat_ushiftRight, BitVec.toNat_ofInt, Nat.shiftRight_eq_div_pow, Nat.shiftLeft_eq]
  omega
 show IntKind.u64.wrap ((BitVec.ofInt 64 x &&& ~~~ BitVec.ofInt 64 4294967295).toNat : Int) = _
 rw [e2]
 simp only [IntKind.wrap, IntKind.signed, IntKind.bits]
 simp
 omega
theorem or_4294967295 (x y : Int) : bits .or .u64 (x % 18446744073709551616 / 4294967296 * 4294967296) (y % 4294967296) = x % 18446744073709551616 / 4294967296 * 4294967296 + y % 4294967296 := by
 rw [bits_or64]
 have e : n64 (UInt64.ofInt (x % 18446744073709551616 / 4294967296 * 4294967296) ||| UInt64.ofInt (y % 4294967296)) = ((x % 18446744073709551616).toNat / 2 ^ 32) <<< 32 ||| (y % 4294967296).toNat := by
  show (UInt64.ofInt _ ||| UInt64.ofInt _).toNat = _
  rw [UInt64.toNat_or, u64_ofInt_toNat, u64_ofInt_toNat, Nat.shiftLeft_eq]
  congr 1 <;> omega
 rw [e, ← Nat.shiftLeft_add_eq_or_of_lt (by omega), Nat.shiftLeft_eq]
 omega
attribute [local go_sem high] and_255 and_65535 and_16777215 and_4294967295 andn_255 andn_65535 andn_16777215 andn_4294967295 or_255 or_65535 or_16777215 or_4294967295
theorem hold8 {P : Program} {Q : Exit → Act → World → Prop} {a : Act} {w : World} {ops : Array Oper} {b : Bool} {rest : Code} (h : ((Code.region 8 ops b).seq rest).wp P Q a w) : ((Code.region 8 ops b).seq rest).wp P Q a w := h
theorem hold9 {P : Program} {Q : Exit → Act → World → Prop} {a : Act} {w : World} {ops : Array Oper} {b : Bool} {rest : Code} (h : ((Code.region 9 ops b).seq rest).wp P Q a w) : ((Code.region 9 ops b).seq rest).wp P Q a w := h
set_option maxRecDepth 100000 in
set_option maxHeartbeats 4000000 in
theorem full_any (c : Nat) (n : Int) (largest : Nat) (any : Bool) (h1 : c < 18446744073709551616) (hn1 : -9223372036854775808 ≤ n) (hn2 : n ≤ 9223372036854775807) (h2 : largest < 18446744073709551616) (w : World) :
  Calls Try.prog 39 #[.int .u64 (c : Nat), .int .i64 n, .int .u64 (largest : Nat), .bool any] w fun e w' => e = .returned (.int .u64 (full c n largest any : Nat)) ∧ w = w' := by
 by_cases ha : n < 1
 ·have hf : full c n largest any = 0 := by unfold full; rw [if_pos (Or.inl ha)]
  go_enter Try.func39, Try.ntmps39
  go_wp2_with fail
  go_ret
  exact ⟨by (try rw [hf]); rfl, rfl⟩
 by_cases hb : 4 < n
 ·have hf : full c n largest any = 0 := by unfold full; rw [if_pos (Or.inr (Or.inl hb))]
  go_enter Try.func39, Try.ntmps39
  go_wp2_with fail
  go_ret
  exact ⟨by (try rw [hf]); rfl, rfl⟩
 by_cases hc : ((4611686018427387903 : Nat) : Int) < (largest : Nat)
 ·have hf : full c n largest any = 0 := by unfold full; rw [if_pos (Or.inr (Or.inr (by omega)))]
  have hc' : (4611686018427387903 : Int) < (largest : Nat) := hc
  clear hc
  go_enter Try.func39, Try.ntmps39
  go_wp2_with fail
  go_ret
  exact ⟨by (try rw [hf]); rfl, rfl⟩
 have hf : full c n largest any = fullW c (wide n) (if any then largest + 1 else 0) := by unfold full; rw [if_neg (by omega)]
 have hc' : ¬ (4611686018427387903 : Int) < (largest : Nat) := hc
 clear hc hn1 hn2
 have hn : n = 1 ∨ n = 2 ∨ n = 3 ∨ n = 4 := by omega
 rcases hn with rfl | rfl | rfl | rfl
 ·cases any
  ·go_enter Try.func39, Try.ntmps39
   repeat ((fail_if_success refine hold8 ?_); first | go_step | go_skip | go_guarded | go_upon | (go_ite <;> go_prune <;> (try go_simp)))
   have eO : ((n64 (UInt64.ofInt ((c : Int) % 256)) : Nat) : Int) = ((c % 256 : Nat) : Int) := by
    rw [show (c : Int) % 256 = ((c % 256 : Nat) : Int) by omega, ofInt64 _ (by omega)]
   rw [eO]
   have hF : full c 1 largest false = fullW c 256 0 := hf
   clear eO hc' ha hb h1 h2 hf
   unfold fullW at hF
   rw [show 0 / 256 * 256 + c % 256 = c % 256 by omega] at hF
   have hO2 : c % 256 < 256 := by omega
   generalize c % 256 = O at hO2 hF ⊢
   simp only [] at hF
   have f1 : IntKind.u64.wrap ((O : Int) + 128) = (O : Int) + 128 := by simp only [IntKind.wrap, IntKind.signed, IntKind.bits]; simp; omega
   have hr : full c 1 largest false = O := by rw [hF, if_neg (by omega), if_neg (by omega)]
   have c1 : ¬ ((O : Int) + 128 ≤ 0) := by omega
   have c4 : ¬ (256 ≤ (O : Int)) := by omega
   by_cases c3 : (128 : Int) < (O : Int)
   ·clear hF hO2
    go_wp2_with fail
    go_ret
    exact ⟨by (try rw [hr]); first | rfl | (push_cast; rfl), by first | rfl | trivial⟩
   ·clear hF hO2
    go_wp2_with fail
    go_ret
    exact ⟨by (try rw [hr]); first | rfl | (push_cast; rfl), by first | rfl | trivial⟩
  ·go_enter Try.func39, Try.ntmps39
   repeat ((fail_if_success refine hold8 ?_); first | go_step | go_skip | go_guarded | go_upon | (go_ite <;> go_prune <;> (try go_simp)))
   have hq2 : largest + 1 ≤ 4611686018427387904 := by omega
   have eO : ((largest : Nat) + 1 : Int) % 18446744073709551616 / 256 * 256 + (c : Int) % 256 = (((largest + 1) / 256 * 256 + c % 256 : Nat) : Int) := by omega
   have eQ : ((largest : Nat) + 1 : Int) = ((largest + 1 : Nat) : Int) := by omega
   rw [eO, eQ]
   have hF : full c 1 largest true = fullW c 256 (largest + 1) := hf
   clear eO eQ hc' ha hb h1 h2 hf
   generalize largest + 1 = q at hq2 hF ⊢
   unfold fullW at hF
   have hO2 : q / 256 * 256 + c % 256 ≤ q + 255 := by omega
   generalize q / 256 * 256 + c % 256 = O at hO2 hF ⊢
   simp only [] at hF
   have f1 : IntKind.u64.wrap ((O : Int) + 128) = (O : Int) + 128 := by simp only [IntKind.wrap, IntKind.signed, IntKind.bits]; simp; omega
   have f2 : IntKind.u64.wrap ((q : Int) + 128) = (q : Int) + 128 := by simp only [IntKind.wrap, IntKind.signed, IntKind.bits]; simp; omega
   have f3 : IntKind.u64.wrap ((O : Int) + 256) = (O : Int) + 256 := by simp only [IntKind.wrap, IntKind.signed, IntKind.bits]; simp; omega
   have f5 : IntKind.u64.wrap 4611686018427387648 = 4611686018427387648 := rfl
   by_cases c1 : (O : Int) + 128 ≤ (q : Int)
   ·by_cases c2 : (O : Int) < 4611686018427387648
    ·have hr : full c 1 largest true = O + 256 := by rw [hF, if_pos (by omega)]
     clear hF hq2 hO2 f2
     go_wp2_with fail
     go_ret
     exact ⟨by (try rw [hr]); first | rfl | (push_cast; rfl), by first | rfl | trivial⟩
    ·have c3 : ¬ (q : Int) + 128 < (O : Int) := by omega
     have hr : full c 1 largest true = O := by rw [hF, if_neg (by omega), if_neg (by omega)]
     clear hF hq2 hO2 f3
     go_wp2_with fail
     go_ret
     exact ⟨by (try rw [hr]); first | rfl | (push_cast; rfl), by first | rfl | trivial⟩
   ·by_cases c3 : (q : Int) + 128 < (O : Int)
    ·by_cases c4 : 256 ≤ (O : Int)
     ·have hr : full c 1 largest true = O - 256 := by rw [hF, if_neg (by omega), if_pos (by omega)]
      have f4 : IntKind.u64.wrap ((O : Int) - 256) = ((O - 256 : Nat) : Int) := by simp only [IntKind.wrap, IntKind.signed, IntKind.bits]; simp; omega
      clear hF hq2 hO2 f3
      go_wp2_with fail
      go_ret
      exact ⟨by (try rw [hr]); first | rfl | (push_cast; rfl), by first | rfl | trivial⟩
     ·have hr : full c 1 largest true = O := by rw [hF, if_neg (by omega), if_neg (by omega)]
      clear hF hq2 hO2 f3
      go_wp2_with fail
      go_ret
      exact ⟨by (try rw [hr]); first | rfl | (push_cast; rfl), by first | rfl | trivial⟩
    ·have hr : full c 1 largest true = O := by rw [hF, if_neg (by omega), if_neg (by omega)]
     clear hF hq2 hO2 f3
     go_wp2_with fail
     go_ret
     exact ⟨by (try rw [hr]); first | rfl | (push_cast; rfl), by first | rfl | trivial⟩
 ·cases any
  ·go_enter Try.func39, Try.ntmps39
   repeat ((fail_if_success refine hold8 ?_); first | go_step | go_skip | go_guarded | go_upon | (go_ite <;> go_prune <;> (try go_simp)))
   have eO : ((n64 (UInt64.ofInt ((c : Int) % 65536)) : Nat) : Int) = ((c % 65536 : Nat) : Int) := by
    rw [show (c : Int) % 65536 = ((c % 65536 : Nat) : Int) by omega, ofInt64 _ (by omega)]
   rw [eO]
   have hF : full c 2 largest false = fullW c 65536 0 := hf
   clear eO hc' ha hb h1 h2 hf
   unfold fullW at hF
   rw [show 0 / 65536 * 65536 + c % 65536 = c % 65536 by omega] at hF
   have hO2 : c % 65536 < 65536 := by omega
   generalize c % 65536 = O at hO2 hF ⊢
   simp only [] at hF
   have f1 : IntKind.u64.wrap ((O : Int) + 32768) = (O : Int) + 32768 := by simp only [IntKind.wrap, IntKind.signed, IntKind.bits]; simp; omega
   have hr : full c 2 largest false = O := by rw [hF, if_neg (by omega), if_neg (by omega)]
   have c1 : ¬ ((O : Int) + 32768 ≤ 0) := by omega
   have c4 : ¬ (65536 ≤ (O : Int)) := by omega
   by_cases c3 : (32768 : Int) < (O : Int)
   ·clear hF hO2
    go_wp2_with fail
    go_ret
    exact ⟨by (try rw [hr]); first | rfl | (push_cast; rfl), by first | rfl | trivial⟩
   ·clear hF hO2
    go_wp2_with fail
    go_ret
    exact ⟨by (try rw [hr]); first | rfl | (push_cast; rfl), by first | rfl | trivial⟩
  ·go_enter Try.func39, Try.ntmps39
   repeat ((fail_if_success refine hold8 ?_); first | go_step | go_skip | go_guarded | go_upon | (go_ite <;> go_prune <;> (try go_simp)))
   have hq2 : largest + 1 ≤ 4611686018427387904 := by omega
   have eO : ((largest : Nat) + 1 : Int) % 18446744073709551616 / 65536 * 65536 + (c : Int) % 65536 = (((largest + 1) / 65536 * 65536 + c % 65536 : Nat) : Int) := by omega
   have eQ : ((largest : Nat) + 1 : Int) = ((largest + 1 : Nat) : Int) := by omega
   rw [eO, eQ]
   have hF : full c 2 largest true = fullW c 65536 (largest + 1) := hf
   clear eO eQ hc' ha hb h1 h2 hf
   generalize largest + 1 = q at hq2 hF ⊢
   unfold fullW at hF
   have hO2 : q / 65536 * 65536 + c % 65536 ≤ q + 65535 := by omega
   generalize q / 65536 * 65536 + c % 65536 = O at hO2 hF ⊢
   simp only [] at hF
   have f1 : IntKind.u64.wrap ((O : Int) + 32768) = (O : Int) + 32768 := by simp only [IntKind.wrap, IntKind.signed, IntKind.bits]; simp; omega
   have f2 : IntKind.u64.wrap ((q : Int) + 32768) = (q : Int) + 32768 := by simp only [IntKind.wrap, IntKind.signed, IntKind.bits]; simp; omega
   have f3 : IntKind.u64.wrap ((O : Int) + 65536) = (O : Int) + 65536 := by simp only [IntKind.wrap, IntKind.signed, IntKind.bits]; simp; omega
   have f5 : IntKind.u64.wrap 4611686018427322368 = 4611686018427322368 := rfl
   by_cases c1 : (O : Int) + 32768 ≤ (q : Int)
   ·by_cases c2 : (O : Int) < 4611686018427322368
    ·have hr : full c 2 largest true = O + 65536 := by rw [hF, if_pos (by omega)]
     clear hF hq2 hO2 f2
     go_wp2_with fail
     go_ret
     exact ⟨by (try rw [hr]); first | rfl | (push_cast; rfl), by first | rfl | trivial⟩
    ·have c3 : ¬ (q : Int) + 32768 < (O : Int) := by omega
     have hr : full c 2 largest true = O := by rw [hF, if_neg (by omega), if_neg (by omega)]
     clear hF hq2 hO2 f3
     go_wp2_with fail
     go_ret
     exact ⟨by (try rw [hr]); first | rfl | (push_cast; rfl), by first | rfl | trivial⟩
   ·by_cases c3 : (q : Int) + 32768 < (O : Int)
    ·by_cases c4 : 65536 ≤ (O : Int)
     ·have hr : full c 2 largest true = O - 65536 := by rw [hF, if_neg (by omega), if_pos (by omega)]
      have f4 : IntKind.u64.wrap ((O : Int) - 65536) = ((O - 65536 : Nat) : Int) := by simp only [IntKind.wrap, IntKind.signed, IntKind.bits]; simp; omega
      clear hF hq2 hO2 f3
      go_wp2_with fail
      go_ret
      exact ⟨by (try rw [hr]); first | rfl | (push_cast; rfl), by first | rfl | trivial⟩
     ·have hr : full c 2 largest true = O := by rw [hF, if_neg (by omega), if_neg (by omega)]
      clear hF hq2 hO2 f3
      go_wp2_with fail
      go_ret
      exact ⟨by (try rw [hr]); first | rfl | (push_cast; rfl), by first | rfl | trivial⟩
    ·have hr : full c 2 largest true = O := by rw [hF, if_neg (by omega), if_neg (by omega)]
     clear hF hq2 hO2 f3
     go_wp2_with fail
     go_ret
     exact ⟨by (try rw [hr]); first | rfl | (push_cast; rfl), by first | rfl | trivial⟩
 ·cases any
  ·go_enter Try.func39, Try.ntmps39
   repeat ((fail_if_success refine hold8 ?_); first | go_step | go_skip | go_guarded | go_upon | (go_ite <;> go_prune <;> (try go_simp)))
   have eO : ((n64 (UInt64.ofInt ((c : Int) % 16777216)) : Nat) : Int) = ((c % 16777216 : Nat) : Int) := by
    rw [show (c : Int) % 16777216 = ((c % 16777216 : Nat) : Int) by omega, ofInt64 _ (by omega)]
   rw [eO]
   have hF : full c 3 largest false = fullW c 16777216 0 := hf
   clear eO hc' ha hb h1 h2 hf
   unfold fullW at hF
   rw [show 0 / 16777216 * 16777216 + c % 16777216 = c % 16777216 by omega] at hF
   have hO2 : c % 16777216 < 16777216 := by omega
   generalize c % 16777216 = O at hO2 hF ⊢
   simp only [] at hF
   have f1 : IntKind.u64.wrap ((O : Int) + 8388608) = (O : Int) + 8388608 := by simp only [IntKind.wrap, IntKind.signed, IntKind.bits]; simp; omega
   have hr : full c 3 largest false = O := by rw [hF, if_neg (by omega), if_neg (by omega)]
   have c1 : ¬ ((O : Int) + 8388608 ≤ 0) := by omega
   have c4 : ¬ (16777216 ≤ (O : Int)) := by omega
   by_cases c3 : (8388608 : Int) < (O : Int)
   ·clear hF hO2
    go_wp2_with fail
    go_ret
    exact ⟨by (try rw [hr]); first | rfl | (push_cast; rfl), by first | rfl | trivial⟩
   ·clear hF hO2
    go_wp2_with fail
    go_ret
    exact ⟨by (try rw [hr]); first | rfl | (push_cast; rfl), by first | rfl | trivial⟩
  ·go_enter Try.func39, Try.ntmps39
   repeat ((fail_if_success refine hold8 ?_); first | go_step | go_skip | go_guarded | go_upon | (go_ite <;> go_prune <;> (try go_simp)))
   have hq2 : largest + 1 ≤ 4611686018427387904 := by omega
   have eO : ((largest : Nat) + 1 : Int) % 18446744073709551616 / 16777216 * 16777216 + (c : Int) % 16777216 = (((largest + 1) / 16777216 * 16777216 + c % 16777216 : Nat) : Int) := by omega
   have eQ : ((largest : Nat) + 1 : Int) = ((largest + 1 : Nat) : Int) := by omega
   rw [eO, eQ]
   have hF : full c 3 largest true = fullW c 16777216 (largest + 1) := hf
   clear eO eQ hc' ha hb h1 h2 hf
   generalize largest + 1 = q at hq2 hF ⊢
   unfold fullW at hF
   have hO2 : q / 16777216 * 16777216 + c % 16777216 ≤ q + 16777215 := by omega
   generalize q / 16777216 * 16777216 + c % 16777216 = O at hO2 hF ⊢
   simp only [] at hF
   have f1 : IntKind.u64.wrap ((O : Int) + 8388608) = (O : Int) + 8388608 := by simp only [IntKind.wrap, IntKind.signed, IntKind.bits]; simp; omega
   have f2 : IntKind.u64.wrap ((q : Int) + 8388608) = (q : Int) + 8388608 := by simp only [IntKind.wrap, IntKind.signed, IntKind.bits]; simp; omega
   have f3 : IntKind.u64.wrap ((O : Int) + 16777216) = (O : Int) + 16777216 := by simp only [IntKind.wrap, IntKind.signed, IntKind.bits]; simp; omega
   have f5 : IntKind.u64.wrap 4611686018410610688 = 4611686018410610688 := rfl
   by_cases c1 : (O : Int) + 8388608 ≤ (q : Int)
   ·by_cases c2 : (O : Int) < 4611686018410610688
    ·have hr : full c 3 largest true = O + 16777216 := by rw [hF, if_pos (by omega)]
     clear hF hq2 hO2 f2
     go_wp2_with fail
     go_ret
     exact ⟨by (try rw [hr]); first | rfl | (push_cast; rfl), by first | rfl | trivial⟩
    ·have c3 : ¬ (q : Int) + 8388608 < (O : Int) := by omega
     have hr : full c 3 largest true = O := by rw [hF, if_neg (by omega), if_neg (by omega)]
     clear hF hq2 hO2 f3
     go_wp2_with fail
     go_ret
     exact ⟨by (try rw [hr]); first | rfl | (push_cast; rfl), by first | rfl | trivial⟩
   ·by_cases c3 : (q : Int) + 8388608 < (O : Int)
    ·by_cases c4 : 16777216 ≤ (O : Int)
     ·have hr : full c 3 largest true = O - 16777216 := by rw [hF, if_neg (by omega), if_pos (by omega)]
      have f4 : IntKind.u64.wrap ((O : Int) - 16777216) = ((O - 16777216 : Nat) : Int) := by simp only [IntKind.wrap, IntKind.signed, IntKind.bits]; simp; omega
      clear hF hq2 hO2 f3
      go_wp2_with fail
      go_ret
      exact ⟨by (try rw [hr]); first | rfl | (push_cast; rfl), by first | rfl | trivial⟩
     ·have hr : full c 3 largest true = O := by rw [hF, if_neg (by omega), if_neg (by omega)]
      clear hF hq2 hO2 f3
      go_wp2_with fail
      go_ret
      exact ⟨by (try rw [hr]); first | rfl | (push_cast; rfl), by first | rfl | trivial⟩
    ·have hr : full c 3 largest true = O := by rw [hF, if_neg (by omega), if_neg (by omega)]
     clear hF hq2 hO2 f3
     go_wp2_with fail
     go_ret
     exact ⟨by (try rw [hr]); first | rfl | (push_cast; rfl), by first | rfl | trivial⟩
 ·cases any
  ·go_enter Try.func39, Try.ntmps39
   repeat ((fail_if_success refine hold8 ?_); first | go_step | go_skip | go_guarded | go_upon | (go_ite <;> go_prune <;> (try go_simp)))
   have eO : ((n64 (UInt64.ofInt ((c : Int) % 4294967296)) : Nat) : Int) = ((c % 4294967296 : Nat) : Int) := by
    rw [show (c : Int) % 4294967296 = ((c % 4294967296 : Nat) : Int) by omega, ofInt64 _ (by omega)]
   rw [eO]
   have hF : full c 4 largest false = fullW c 4294967296 0 := hf
   clear eO hc' ha hb h1 h2 hf
   unfold fullW at hF
   rw [show 0 / 4294967296 * 4294967296 + c % 4294967296 = c % 4294967296 by omega] at hF
   have hO2 : c % 4294967296 < 4294967296 := by omega
   generalize c % 4294967296 = O at hO2 hF ⊢
   simp only [] at hF
   have f1 : IntKind.u64.wrap ((O : Int) + 2147483648) = (O : Int) + 2147483648 := by simp only [IntKind.wrap, IntKind.signed, IntKind.bits]; simp; omega
   have hr : full c 4 largest false = O := by rw [hF, if_neg (by omega), if_neg (by omega)]
   have c1 : ¬ ((O : Int) + 2147483648 ≤ 0) := by omega
   have c4 : ¬ (4294967296 ≤ (O : Int)) := by omega
   by_cases c3 : (2147483648 : Int) < (O : Int)
   ·clear hF hO2
    go_wp2_with fail
    go_ret
    exact ⟨by (try rw [hr]); first | rfl | (push_cast; rfl), by first | rfl | trivial⟩
   ·clear hF hO2
    go_wp2_with fail
    go_ret
    exact ⟨by (try rw [hr]); first | rfl | (push_cast; rfl), by first | rfl | trivial⟩
  ·go_enter Try.func39, Try.ntmps39
   repeat ((fail_if_success refine hold8 ?_); first | go_step | go_skip | go_guarded | go_upon | (go_ite <;> go_prune <;> (try go_simp)))
   have hq2 : largest + 1 ≤ 4611686018427387904 := by omega
   have eO : ((largest : Nat) + 1 : Int) % 18446744073709551616 / 4294967296 * 4294967296 + (c : Int) % 4294967296 = (((largest + 1) / 4294967296 * 4294967296 + c % 4294967296 : Nat) : Int) := by omega
   have eQ : ((largest : Nat) + 1 : Int) = ((largest + 1 : Nat) : Int) := by omega
   rw [eO, eQ]
   have hF : full c 4 largest true = fullW c 4294967296 (largest + 1) := hf
   clear eO eQ hc' ha hb h1 h2 hf
   generalize largest + 1 = q at hq2 hF ⊢
   unfold fullW at hF
   have hO2 : q / 4294967296 * 4294967296 + c % 4294967296 ≤ q + 4294967295 := by omega
   generalize q / 4294967296 * 4294967296 + c % 4294967296 = O at hO2 hF ⊢
   simp only [] at hF
   have f1 : IntKind.u64.wrap ((O : Int) + 2147483648) = (O : Int) + 2147483648 := by simp only [IntKind.wrap, IntKind.signed, IntKind.bits]; simp; omega
   have f2 : IntKind.u64.wrap ((q : Int) + 2147483648) = (q : Int) + 2147483648 := by simp only [IntKind.wrap, IntKind.signed, IntKind.bits]; simp; omega
   have f3 : IntKind.u64.wrap ((O : Int) + 4294967296) = (O : Int) + 4294967296 := by simp only [IntKind.wrap, IntKind.signed, IntKind.bits]; simp; omega
   have f5 : IntKind.u64.wrap 4611686014132420608 = 4611686014132420608 := rfl
   by_cases c1 : (O : Int) + 2147483648 ≤ (q : Int)
   ·by_cases c2 : (O : Int) < 4611686014132420608
    ·have hr : full c 4 largest true = O + 4294967296 := by rw [hF, if_pos (by omega)]
     clear hF hq2 hO2 f2
     go_wp2_with fail
     go_ret
     exact ⟨by (try rw [hr]); first | rfl | (push_cast; rfl), by first | rfl | trivial⟩
    ·have c3 : ¬ (q : Int) + 2147483648 < (O : Int) := by omega
     have hr : full c 4 largest true = O := by rw [hF, if_neg (by omega), if_neg (by omega)]
     clear hF hq2 hO2 f3
     go_wp2_with fail
     go_ret
     exact ⟨by (try rw [hr]); first | rfl | (push_cast; rfl), by first | rfl | trivial⟩
   ·by_cases c3 : (q : Int) + 2147483648 < (O : Int)
    ·by_cases c4 : 4294967296 ≤ (O : Int)
     ·have hr : full c 4 largest true = O - 4294967296 := by rw [hF, if_neg (by omega), if_pos (by omega)]
      have f4 : IntKind.u64.wrap ((O : Int) - 4294967296) = ((O - 4294967296 : Nat) : Int) := by simp only [IntKind.wrap, IntKind.signed, IntKind.bits]; simp; omega
      clear hF hq2 hO2 f3
      go_wp2_with fail
      go_ret
      exact ⟨by (try rw [hr]); first | rfl | (push_cast; rfl), by first | rfl | trivial⟩
     ·have hr : full c 4 largest true = O := by rw [hF, if_neg (by omega), if_neg (by omega)]
      clear hF hq2 hO2 f3
      go_wp2_with fail
      go_ret
      exact ⟨by (try rw [hr]); first | rfl | (push_cast; rfl), by first | rfl | trivial⟩
    ·have hr : full c 4 largest true = O := by rw [hF, if_neg (by omega), if_neg (by omega)]
     clear hF hq2 hO2 f3
     go_wp2_with fail
     go_ret
     exact ⟨by (try rw [hr]); first | rfl | (push_cast; rfl), by first | rfl | trivial⟩
set_option maxRecDepth 100000 in
set_option maxHeartbeats 4000000 in
theorem rfull_any (c : Nat) (n : Int) (largest : Nat) (any : Bool) (h1 : c < 18446744073709551616) (hn1 : -9223372036854775808 ≤ n) (hn2 : n ≤ 9223372036854775807) (h2 : largest < 18446744073709551616) (w : World) :
  Calls Try.prog 42 #[.int .u64 (c : Nat), .int .i64 n, .int .u64 (largest : Nat), .bool any] w fun e w' => e = .returned (.int .u64 (full c n largest any : Nat)) ∧ w = w' := by
 by_cases ha : n < 1
 ·have hf : full c n largest any = 0 := by unfold full; rw [if_pos (Or.inl ha)]
  go_enter Try.func42, Try.ntmps42
  go_wp2_with fail
  go_ret
  exact ⟨by (try rw [hf]); rfl, rfl⟩
 by_cases hb : 4 < n
 ·have hf : full c n largest any = 0 := by unfold full; rw [if_pos (Or.inr (Or.inl hb))]
  go_enter Try.func42, Try.ntmps42
  go_wp2_with fail
  go_ret
  exact ⟨by (try rw [hf]); rfl, rfl⟩
 by_cases hc : ((4611686018427387903 : Nat) : Int) < (largest : Nat)
 ·have hf : full c n largest any = 0 := by unfold full; rw [if_pos (Or.inr (Or.inr (by omega)))]
  have hc' : (4611686018427387903 : Int) < (largest : Nat) := hc
  clear hc
  go_enter Try.func42, Try.ntmps42
  go_wp2_with fail
  go_ret
  exact ⟨by (try rw [hf]); rfl, rfl⟩
 have hf : full c n largest any = fullW c (wide n) (if any then largest + 1 else 0) := by unfold full; rw [if_neg (by omega)]
 have hc' : ¬ (4611686018427387903 : Int) < (largest : Nat) := hc
 clear hc hn1 hn2
 have hn : n = 1 ∨ n = 2 ∨ n = 3 ∨ n = 4 := by omega
 rcases hn with rfl | rfl | rfl | rfl
 ·cases any
  ·go_enter Try.func42, Try.ntmps42
   repeat ((fail_if_success refine hold9 ?_); first | go_step | go_skip | go_guarded | go_upon | (go_ite <;> go_prune <;> (try go_simp)))
   have eO : ((n64 (UInt64.ofInt ((c : Int) % 256)) : Nat) : Int) = ((c % 256 : Nat) : Int) := by
    rw [show (c : Int) % 256 = ((c % 256 : Nat) : Int) by omega, ofInt64 _ (by omega)]
   rw [eO]
   have hF : full c 1 largest false = fullW c 256 0 := hf
   clear eO hc' ha hb h1 h2 hf
   unfold fullW at hF
   rw [show 0 / 256 * 256 + c % 256 = c % 256 by omega] at hF
   have hO2 : c % 256 < 256 := by omega
   generalize c % 256 = O at hO2 hF ⊢
   simp only [] at hF
   have f1 : IntKind.u64.wrap ((O : Int) + 128) = (O : Int) + 128 := by simp only [IntKind.wrap, IntKind.signed, IntKind.bits]; simp; omega
   have hr : full c 1 largest false = O := by rw [hF, if_neg (by omega), if_neg (by omega)]
   have c1 : ¬ ((O : Int) + 128 ≤ 0) := by omega
   have c4 : ¬ (256 ≤ (O : Int)) := by omega
   by_cases c3 : (128 : Int) < (O : Int)
   ·clear hF hO2
    go_wp2_with fail
    go_ret
    exact ⟨by (try rw [hr]); first | rfl | (push_cast; rfl), by first | rfl | trivial⟩
   ·clear hF hO2
    go_wp2_with fail
    go_ret
    exact ⟨by (try rw [hr]); first | rfl | (push_cast; rfl), by first | rfl | trivial⟩
  ·go_enter Try.func42, Try.ntmps42
   repeat ((fail_if_success refine hold9 ?_); first | go_step | go_skip | go_guarded | go_upon | (go_ite <;> go_prune <;> (try go_simp)))
   have hq2 : largest + 1 ≤ 4611686018427387904 := by omega
   have eO : ((largest : Nat) + 1 : Int) % 18446744073709551616 / 256 * 256 + (c : Int) % 256 = (((largest + 1) / 256 * 256 + c % 256 : Nat) : Int) := by omega
   have eQ : ((largest : Nat) + 1 : Int) = ((largest + 1 : Nat) : Int) := by omega
   rw [eO, eQ]
   have hF : full c 1 largest true = fullW c 256 (largest + 1) := hf
   clear eO eQ hc' ha hb h1 h2 hf
   generalize largest + 1 = q at hq2 hF ⊢
   unfold fullW at hF
   have hO2 : q / 256 * 256 + c % 256 ≤ q + 255 := by omega
   generalize q / 256 * 256 + c % 256 = O at hO2 hF ⊢
   simp only [] at hF
   have f1 : IntKind.u64.wrap ((O : Int) + 128) = (O : Int) + 128 := by simp only [IntKind.wrap, IntKind.signed, IntKind.bits]; simp; omega
   have f2 : IntKind.u64.wrap ((q : Int) + 128) = (q : Int) + 128 := by simp only [IntKind.wrap, IntKind.signed, IntKind.bits]; simp; omega
   have f3 : IntKind.u64.wrap ((O : Int) + 256) = (O : Int) + 256 := by simp only [IntKind.wrap, IntKind.signed, IntKind.bits]; simp; omega
   have f5 : IntKind.u64.wrap 4611686018427387648 = 4611686018427387648 := rfl
   by_cases c0 : 128 ≤ (q : Int)
   ·have f6 : IntKind.u64.wrap ((q : Int) - 128) = (q : Int) - 128 := by simp only [IntKind.wrap, IntKind.signed, IntKind.bits]; simp; omega
    by_cases c1 : (O : Int) ≤ (q : Int) - 128
    ·by_cases c2 : (O : Int) < 4611686018427387648
     ·have hr : full c 1 largest true = O + 256 := by rw [hF, if_pos (by omega)]
      clear hF hq2 hO2 f2
      go_wp2_with fail
      go_ret
      exact ⟨by (try rw [hr]); first | rfl | (push_cast; rfl), by first | rfl | trivial⟩
     ·have c3 : ¬ (q : Int) + 128 < (O : Int) := by omega
      have hr : full c 1 largest true = O := by rw [hF, if_neg (by omega), if_neg (by omega)]
      clear hF hq2 hO2 f3
      go_wp2_with fail
      go_ret
      exact ⟨by (try rw [hr]); first | rfl | (push_cast; rfl), by first | rfl | trivial⟩
    ·by_cases c3 : (q : Int) + 128 < (O : Int)
     ·by_cases c4 : 256 ≤ (O : Int)
      ·have hr : full c 1 largest true = O - 256 := by rw [hF, if_neg (by omega), if_pos (by omega)]
       have f4 : IntKind.u64.wrap ((O : Int) - 256) = ((O - 256 : Nat) : Int) := by simp only [IntKind.wrap, IntKind.signed, IntKind.bits]; simp; omega
       clear hF hq2 hO2 f3
       go_wp2_with fail
       go_ret
       exact ⟨by (try rw [hr]); first | rfl | (push_cast; rfl), by first | rfl | trivial⟩
      ·have hr : full c 1 largest true = O := by rw [hF, if_neg (by omega), if_neg (by omega)]
       clear hF hq2 hO2 f3
       go_wp2_with fail
       go_ret
       exact ⟨by (try rw [hr]); first | rfl | (push_cast; rfl), by first | rfl | trivial⟩
     ·have hr : full c 1 largest true = O := by rw [hF, if_neg (by omega), if_neg (by omega)]
      clear hF hq2 hO2 f3
      go_wp2_with fail
      go_ret
      exact ⟨by (try rw [hr]); first | rfl | (push_cast; rfl), by first | rfl | trivial⟩
   ·by_cases c3 : (q : Int) + 128 < (O : Int)
    ·by_cases c4 : 256 ≤ (O : Int)
     ·have hr : full c 1 largest true = O - 256 := by rw [hF, if_neg (by omega), if_pos (by omega)]
      have f4 : IntKind.u64.wrap ((O : Int) - 256) = ((O - 256 : Nat) : Int) := by simp only [IntKind.wrap, IntKind.signed, IntKind.bits]; simp; omega
      clear hF hq2 hO2 f3
      go_wp2_with fail
      go_ret
      exact ⟨by (try rw [hr]); first | rfl | (push_cast; rfl), by first | rfl | trivial⟩
     ·have hr : full c 1 largest true = O := by rw [hF, if_neg (by omega), if_neg (by omega)]
      clear hF hq2 hO2 f3
      go_wp2_with fail
      go_ret
      exact ⟨by (try rw [hr]); first | rfl | (push_cast; rfl), by first | rfl | trivial⟩
    ·have hr : full c 1 largest true = O := by rw [hF, if_neg (by omega), if_neg (by omega)]
     clear hF hq2 hO2 f3
     go_wp2_with fail
     go_ret
     exact ⟨by (try rw [hr]); first | rfl | (push_cast; rfl), by first | rfl | trivial⟩
 ·cases any
  ·go_enter Try.func42, Try.ntmps42
   repeat ((fail_if_success refine hold9 ?_); first | go_step | go_skip | go_guarded | go_upon | (go_ite <;> go_prune <;> (try go_simp)))
   have eO : ((n64 (UInt64.ofInt ((c : Int) % 65536)) : Nat) : Int) = ((c % 65536 : Nat) : Int) := by
    rw [show (c : Int) % 65536 = ((c % 65536 : Nat) : Int) by omega, ofInt64 _ (by omega)]
   rw [eO]
   have hF : full c 2 largest false = fullW c 65536 0 := hf
   clear eO hc' ha hb h1 h2 hf
   unfold fullW at hF
   rw [show 0 / 65536 * 65536 + c % 65536 = c % 65536 by omega] at hF
   have hO2 : c % 65536 < 65536 := by omega
   generalize c % 65536 = O at hO2 hF ⊢
   simp only [] at hF
   have f1 : IntKind.u64.wrap ((O : Int) + 32768) = (O : Int) + 32768 := by simp only [IntKind.wrap, IntKind.signed, IntKind.bits]; simp; omega
   have hr : full c 2 largest false = O := by rw [hF, if_neg (by omega), if_neg (by omega)]
   have c1 : ¬ ((O : Int) + 32768 ≤ 0) := by omega
   have c4 : ¬ (65536 ≤ (O : Int)) := by omega
   by_cases c3 : (32768 : Int) < (O : Int)
   ·clear hF hO2
    go_wp2_with fail
    go_ret
    exact ⟨by (try rw [hr]); first | rfl | (push_cast; rfl), by first | rfl | trivial⟩
   ·clear hF hO2
    go_wp2_with fail
    go_ret
    exact ⟨by (try rw [hr]); first | rfl | (push_cast; rfl), by first | rfl | trivial⟩
  ·go_enter Try.func42, Try.ntmps42
   repeat ((fail_if_success refine hold9 ?_); first | go_step | go_skip | go_guarded | go_upon | (go_ite <;> go_prune <;> (try go_simp)))
   have hq2 : largest + 1 ≤ 4611686018427387904 := by omega
   have eO : ((largest : Nat) + 1 : Int) % 18446744073709551616 / 65536 * 65536 + (c : Int) % 65536 = (((largest + 1) / 65536 * 65536 + c % 65536 : Nat) : Int) := by omega
   have eQ : ((largest : Nat) + 1 : Int) = ((largest + 1 : Nat) : Int) := by omega
   rw [eO, eQ]
   have hF : full c 2 largest true = fullW c 65536 (largest + 1) := hf
   clear eO eQ hc' ha hb h1 h2 hf
   generalize largest + 1 = q at hq2 hF ⊢
   unfold fullW at hF
   have hO2 : q / 65536 * 65536 + c % 65536 ≤ q + 65535 := by omega
   generalize q / 65536 * 65536 + c % 65536 = O at hO2 hF ⊢
   simp only [] at hF
   have f1 : IntKind.u64.wrap ((O : Int) + 32768) = (O : Int) + 32768 := by simp only [IntKind.wrap, IntKind.signed, IntKind.bits]; simp; omega
   have f2 : IntKind.u64.wrap ((q : Int) + 32768) = (q : Int) + 32768 := by simp only [IntKind.wrap, IntKind.signed, IntKind.bits]; simp; omega
   have f3 : IntKind.u64.wrap ((O : Int) + 65536) = (O : Int) + 65536 := by simp only [IntKind.wrap, IntKind.signed, IntKind.bits]; simp; omega
   have f5 : IntKind.u64.wrap 4611686018427322368 = 4611686018427322368 := rfl
   by_cases c0 : 32768 ≤ (q : Int)
   ·have f6 : IntKind.u64.wrap ((q : Int) - 32768) = (q : Int) - 32768 := by simp only [IntKind.wrap, IntKind.signed, IntKind.bits]; simp; omega
    by_cases c1 : (O : Int) ≤ (q : Int) - 32768
    ·by_cases c2 : (O : Int) < 4611686018427322368
     ·have hr : full c 2 largest true = O + 65536 := by rw [hF, if_pos (by omega)]
      clear hF hq2 hO2 f2
      go_wp2_with fail
      go_ret
      exact ⟨by (try rw [hr]); first | rfl | (push_cast; rfl), by first | rfl | trivial⟩
     ·have c3 : ¬ (q : Int) + 32768 < (O : Int) := by omega
      have hr : full c 2 largest true = O := by rw [hF, if_neg (by omega), if_neg (by omega)]
      clear hF hq2 hO2 f3
      go_wp2_with fail
      go_ret
      exact ⟨by (try rw [hr]); first | rfl | (push_cast; rfl), by first | rfl | trivial⟩
    ·by_cases c3 : (q : Int) + 32768 < (O : Int)
     ·by_cases c4 : 65536 ≤ (O : Int)
      ·have hr : full c 2 largest true = O - 65536 := by rw [hF, if_neg (by omega), if_pos (by omega)]
       have f4 : IntKind.u64.wrap ((O : Int) - 65536) = ((O - 65536 : Nat) : Int) := by simp only [IntKind.wrap, IntKind.signed, IntKind.bits]; simp; omega
       clear hF hq2 hO2 f3
       go_wp2_with fail
       go_ret
       exact ⟨by (try rw [hr]); first | rfl | (push_cast; rfl), by first | rfl | trivial⟩
      ·have hr : full c 2 largest true = O := by rw [hF, if_neg (by omega), if_neg (by omega)]
       clear hF hq2 hO2 f3
       go_wp2_with fail
       go_ret
       exact ⟨by (try rw [hr]); first | rfl | (push_cast; rfl), by first | rfl | trivial⟩
     ·have hr : full c 2 largest true = O := by rw [hF, if_neg (by omega), if_neg (by omega)]
      clear hF hq2 hO2 f3
      go_wp2_with fail
      go_ret
      exact ⟨by (try rw [hr]); first | rfl | (push_cast; rfl), by first | rfl | trivial⟩
   ·by_cases c3 : (q : Int) + 32768 < (O : Int)
    ·by_cases c4 : 65536 ≤ (O : Int)
     ·have hr : full c 2 largest true = O - 65536 := by rw [hF, if_neg (by omega), if_pos (by omega)]
      have f4 : IntKind.u64.wrap ((O : Int) - 65536) = ((O - 65536 : Nat) : Int) := by simp only [IntKind.wrap, IntKind.signed, IntKind.bits]; simp; omega
      clear hF hq2 hO2 f3
      go_wp2_with fail
      go_ret
      exact ⟨by (try rw [hr]); first | rfl | (push_cast; rfl), by first | rfl | trivial⟩
     ·have hr : full c 2 largest true = O := by rw [hF, if_neg (by omega), if_neg (by omega)]
      clear hF hq2 hO2 f3
      go_wp2_with fail
      go_ret
      exact ⟨by (try rw [hr]); first | rfl | (push_cast; rfl), by first | rfl | trivial⟩
    ·have hr : full c 2 largest true = O := by rw [hF, if_neg (by omega), if_neg (by omega)]
     clear hF hq2 hO2 f3
     go_wp2_with fail
     go_ret
     exact ⟨by (try rw [hr]); first | rfl | (push_cast; rfl), by first | rfl | trivial⟩
 ·cases any
  ·go_enter Try.func42, Try.ntmps42
   repeat ((fail_if_success refine hold9 ?_); first | go_step | go_skip | go_guarded | go_upon | (go_ite <;> go_prune <;> (try go_simp)))
   have eO : ((n64 (UInt64.ofInt ((c : Int) % 16777216)) : Nat) : Int) = ((c % 16777216 : Nat) : Int) := by
    rw [show (c : Int) % 16777216 = ((c % 16777216 : Nat) : Int) by omega, ofInt64 _ (by omega)]
   rw [eO]
   have hF : full c 3 largest false = fullW c 16777216 0 := hf
   clear eO hc' ha hb h1 h2 hf
   unfold fullW at hF
   rw [show 0 / 16777216 * 16777216 + c % 16777216 = c % 16777216 by omega] at hF
   have hO2 : c % 16777216 < 16777216 := by omega
   generalize c % 16777216 = O at hO2 hF ⊢
   simp only [] at hF
   have f1 : IntKind.u64.wrap ((O : Int) + 8388608) = (O : Int) + 8388608 := by simp only [IntKind.wrap, IntKind.signed, IntKind.bits]; simp; omega
   have hr : full c 3 largest false = O := by rw [hF, if_neg (by omega), if_neg (by omega)]
   have c1 : ¬ ((O : Int) + 8388608 ≤ 0) := by omega
   have c4 : ¬ (16777216 ≤ (O : Int)) := by omega
   by_cases c3 : (8388608 : Int) < (O : Int)
   ·clear hF hO2
    go_wp2_with fail
    go_ret
    exact ⟨by (try rw [hr]); first | rfl | (push_cast; rfl), by first | rfl | trivial⟩
   ·clear hF hO2
    go_wp2_with fail
    go_ret
    exact ⟨by (try rw [hr]); first | rfl | (push_cast; rfl), by first | rfl | trivial⟩
  ·go_enter Try.func42, Try.ntmps42
   repeat ((fail_if_success refine hold9 ?_); first | go_step | go_skip | go_guarded | go_upon | (go_ite <;> go_prune <;> (try go_simp)))
   have hq2 : largest + 1 ≤ 4611686018427387904 := by omega
   have eO : ((largest : Nat) + 1 : Int) % 18446744073709551616 / 16777216 * 16777216 + (c : Int) % 16777216 = (((largest + 1) / 16777216 * 16777216 + c % 16777216 : Nat) : Int) := by omega
   have eQ : ((largest : Nat) + 1 : Int) = ((largest + 1 : Nat) : Int) := by omega
   rw [eO, eQ]
   have hF : full c 3 largest true = fullW c 16777216 (largest + 1) := hf
   clear eO eQ hc' ha hb h1 h2 hf
   generalize largest + 1 = q at hq2 hF ⊢
   unfold fullW at hF
   have hO2 : q / 16777216 * 16777216 + c % 16777216 ≤ q + 16777215 := by omega
   generalize q / 16777216 * 16777216 + c % 16777216 = O at hO2 hF ⊢
   simp only [] at hF
   have f1 : IntKind.u64.wrap ((O : Int) + 8388608) = (O : Int) + 8388608 := by simp only [IntKind.wrap, IntKind.signed, IntKind.bits]; simp; omega
   have f2 : IntKind.u64.wrap ((q : Int) + 8388608) = (q : Int) + 8388608 := by simp only [IntKind.wrap, IntKind.signed, IntKind.bits]; simp; omega
   have f3 : IntKind.u64.wrap ((O : Int) + 16777216) = (O : Int) + 16777216 := by simp only [IntKind.wrap, IntKind.signed, IntKind.bits]; simp; omega
   have f5 : IntKind.u64.wrap 4611686018410610688 = 4611686018410610688 := rfl
   by_cases c0 : 8388608 ≤ (q : Int)
   ·have f6 : IntKind.u64.wrap ((q : Int) - 8388608) = (q : Int) - 8388608 := by simp only [IntKind.wrap, IntKind.signed, IntKind.bits]; simp; omega
    by_cases c1 : (O : Int) ≤ (q : Int) - 8388608
    ·by_cases c2 : (O : Int) < 4611686018410610688
     ·have hr : full c 3 largest true = O + 16777216 := by rw [hF, if_pos (by omega)]
      clear hF hq2 hO2 f2
      go_wp2_with fail
      go_ret
      exact ⟨by (try rw [hr]); first | rfl | (push_cast; rfl), by first | rfl | trivial⟩
     ·have c3 : ¬ (q : Int) + 8388608 < (O : Int) := by omega
      have hr : full c 3 largest true = O := by rw [hF, if_neg (by omega), if_neg (by omega)]
      clear hF hq2 hO2 f3
      go_wp2_with fail
      go_ret
      exact ⟨by (try rw [hr]); first | rfl | (push_cast; rfl), by first | rfl | trivial⟩
    ·by_cases c3 : (q : Int) + 8388608 < (O : Int)
     ·by_cases c4 : 16777216 ≤ (O : Int)
      ·have hr : full c 3 largest true = O - 16777216 := by rw [hF, if_neg (by omega), if_pos (by omega)]
       have f4 : IntKind.u64.wrap ((O : Int) - 16777216) = ((O - 16777216 : Nat) : Int) := by simp only [IntKind.wrap, IntKind.signed, IntKind.bits]; simp; omega
       clear hF hq2 hO2 f3
       go_wp2_with fail
       go_ret
       exact ⟨by (try rw [hr]); first | rfl | (push_cast; rfl), by first | rfl | trivial⟩
      ·have hr : full c 3 largest true = O := by rw [hF, if_neg (by omega), if_neg (by omega)]
       clear hF hq2 hO2 f3
       go_wp2_with fail
       go_ret
       exact ⟨by (try rw [hr]); first | rfl | (push_cast; rfl), by first | rfl | trivial⟩
     ·have hr : full c 3 largest true = O := by rw [hF, if_neg (by omega), if_neg (by omega)]
      clear hF hq2 hO2 f3
      go_wp2_with fail
      go_ret
      exact ⟨by (try rw [hr]); first | rfl | (push_cast; rfl), by first | rfl | trivial⟩
   ·by_cases c3 : (q : Int) + 8388608 < (O : Int)
    ·by_cases c4 : 16777216 ≤ (O : Int)
     ·have hr : full c 3 largest true = O - 16777216 := by rw [hF, if_neg (by omega), if_pos (by omega)]
      have f4 : IntKind.u64.wrap ((O : Int) - 16777216) = ((O - 16777216 : Nat) : Int) := by simp only [IntKind.wrap, IntKind.signed, IntKind.bits]; simp; omega
      clear hF hq2 hO2 f3
      go_wp2_with fail
      go_ret
      exact ⟨by (try rw [hr]); first | rfl | (push_cast; rfl), by first | rfl | trivial⟩
     ·have hr : full c 3 largest true = O := by rw [hF, if_neg (by omega), if_neg (by omega)]
      clear hF hq2 hO2 f3
      go_wp2_with fail
      go_ret
      exact ⟨by (try rw [hr]); first | rfl | (push_cast; rfl), by first | rfl | trivial⟩
    ·have hr : full c 3 largest true = O := by rw [hF, if_neg (by omega), if_neg (by omega)]
     clear hF hq2 hO2 f3
     go_wp2_with fail
     go_ret
     exact ⟨by (try rw [hr]); first | rfl | (push_cast; rfl), by first | rfl | trivial⟩
 ·cases any
  ·go_enter Try.func42, Try.ntmps42
   repeat ((fail_if_success refine hold9 ?_); first | go_step | go_skip | go_guarded | go_upon | (go_ite <;> go_prune <;> (try go_simp)))
   have eO : ((n64 (UInt64.ofInt ((c : Int) % 4294967296)) : Nat) : Int) = ((c % 4294967296 : Nat) : Int) := by
    rw [show (c : Int) % 4294967296 = ((c % 4294967296 : Nat) : Int) by omega, ofInt64 _ (by omega)]
   rw [eO]
   have hF : full c 4 largest false = fullW c 4294967296 0 := hf
   clear eO hc' ha hb h1 h2 hf
   unfold fullW at hF
   rw [show 0 / 4294967296 * 4294967296 + c % 4294967296 = c % 4294967296 by omega] at hF
   have hO2 : c % 4294967296 < 4294967296 := by omega
   generalize c % 4294967296 = O at hO2 hF ⊢
   simp only [] at hF
   have f1 : IntKind.u64.wrap ((O : Int) + 2147483648) = (O : Int) + 2147483648 := by simp only [IntKind.wrap, IntKind.signed, IntKind.bits]; simp; omega
   have hr : full c 4 largest false = O := by rw [hF, if_neg (by omega), if_neg (by omega)]
   have c1 : ¬ ((O : Int) + 2147483648 ≤ 0) := by omega
   have c4 : ¬ (4294967296 ≤ (O : Int)) := by omega
   by_cases c3 : (2147483648 : Int) < (O : Int)
   ·clear hF hO2
    go_wp2_with fail
    go_ret
    exact ⟨by (try rw [hr]); first | rfl | (push_cast; rfl), by first | rfl | trivial⟩
   ·clear hF hO2
    go_wp2_with fail
    go_ret
    exact ⟨by (try rw [hr]); first | rfl | (push_cast; rfl), by first | rfl | trivial⟩
  ·go_enter Try.func42, Try.ntmps42
   repeat ((fail_if_success refine hold9 ?_); first | go_step | go_skip | go_guarded | go_upon | (go_ite <;> go_prune <;> (try go_simp)))
   have hq2 : largest + 1 ≤ 4611686018427387904 := by omega
   have eO : ((largest : Nat) + 1 : Int) % 18446744073709551616 / 4294967296 * 4294967296 + (c : Int) % 4294967296 = (((largest + 1) / 4294967296 * 4294967296 + c % 4294967296 : Nat) : Int) := by omega
   have eQ : ((largest : Nat) + 1 : Int) = ((largest + 1 : Nat) : Int) := by omega
   rw [eO, eQ]
   have hF : full c 4 largest true = fullW c 4294967296 (largest + 1) := hf
   clear eO eQ hc' ha hb h1 h2 hf
   generalize largest + 1 = q at hq2 hF ⊢
   unfold fullW at hF
   have hO2 : q / 4294967296 * 4294967296 + c % 4294967296 ≤ q + 4294967295 := by omega
   generalize q / 4294967296 * 4294967296 + c % 4294967296 = O at hO2 hF ⊢
   simp only [] at hF
   have f1 : IntKind.u64.wrap ((O : Int) + 2147483648) = (O : Int) + 2147483648 := by simp only [IntKind.wrap, IntKind.signed, IntKind.bits]; simp; omega
   have f2 : IntKind.u64.wrap ((q : Int) + 2147483648) = (q : Int) + 2147483648 := by simp only [IntKind.wrap, IntKind.signed, IntKind.bits]; simp; omega
   have f3 : IntKind.u64.wrap ((O : Int) + 4294967296) = (O : Int) + 4294967296 := by simp only [IntKind.wrap, IntKind.signed, IntKind.bits]; simp; omega
   have f5 : IntKind.u64.wrap 4611686014132420608 = 4611686014132420608 := rfl
   by_cases c0 : 2147483648 ≤ (q : Int)
   ·have f6 : IntKind.u64.wrap ((q : Int) - 2147483648) = (q : Int) - 2147483648 := by simp only [IntKind.wrap, IntKind.signed, IntKind.bits]; simp; omega
    by_cases c1 : (O : Int) ≤ (q : Int) - 2147483648
    ·by_cases c2 : (O : Int) < 4611686014132420608
     ·have hr : full c 4 largest true = O + 4294967296 := by rw [hF, if_pos (by omega)]
      clear hF hq2 hO2 f2
      go_wp2_with fail
      go_ret
      exact ⟨by (try rw [hr]); first | rfl | (push_cast; rfl), by first | rfl | trivial⟩
     ·have c3 : ¬ (q : Int) + 2147483648 < (O : Int) := by omega
      have hr : full c 4 largest true = O := by rw [hF, if_neg (by omega), if_neg (by omega)]
      clear hF hq2 hO2 f3
      go_wp2_with fail
      go_ret
      exact ⟨by (try rw [hr]); first | rfl | (push_cast; rfl), by first | rfl | trivial⟩
    ·by_cases c3 : (q : Int) + 2147483648 < (O : Int)
     ·by_cases c4 : 4294967296 ≤ (O : Int)
      ·have hr : full c 4 largest true = O - 4294967296 := by rw [hF, if_neg (by omega), if_pos (by omega)]
       have f4 : IntKind.u64.wrap ((O : Int) - 4294967296) = ((O - 4294967296 : Nat) : Int) := by simp only [IntKind.wrap, IntKind.signed, IntKind.bits]; simp; omega
       clear hF hq2 hO2 f3
       go_wp2_with fail
       go_ret
       exact ⟨by (try rw [hr]); first | rfl | (push_cast; rfl), by first | rfl | trivial⟩
      ·have hr : full c 4 largest true = O := by rw [hF, if_neg (by omega), if_neg (by omega)]
       clear hF hq2 hO2 f3
       go_wp2_with fail
       go_ret
       exact ⟨by (try rw [hr]); first | rfl | (push_cast; rfl), by first | rfl | trivial⟩
     ·have hr : full c 4 largest true = O := by rw [hF, if_neg (by omega), if_neg (by omega)]
      clear hF hq2 hO2 f3
      go_wp2_with fail
      go_ret
      exact ⟨by (try rw [hr]); first | rfl | (push_cast; rfl), by first | rfl | trivial⟩
   ·by_cases c3 : (q : Int) + 2147483648 < (O : Int)
    ·by_cases c4 : 4294967296 ≤ (O : Int)
     ·have hr : full c 4 largest true = O - 4294967296 := by rw [hF, if_neg (by omega), if_pos (by omega)]
      have f4 : IntKind.u64.wrap ((O : Int) - 4294967296) = ((O - 4294967296 : Nat) : Int) := by simp only [IntKind.wrap, IntKind.signed, IntKind.bits]; simp; omega
      clear hF hq2 hO2 f3
      go_wp2_with fail
      go_ret
      exact ⟨by (try rw [hr]); first | rfl | (push_cast; rfl), by first | rfl | trivial⟩
     ·have hr : full c 4 largest true = O := by rw [hF, if_neg (by omega), if_neg (by omega)]
      clear hF hq2 hO2 f3
      go_wp2_with fail
      go_ret
      exact ⟨by (try rw [hr]); first | rfl | (push_cast; rfl), by first | rfl | trivial⟩
    ·have hr : full c 4 largest true = O := by rw [hF, if_neg (by omega), if_neg (by omega)]
     clear hF hq2 hO2 f3
     go_wp2_with fail
     go_ret
     exact ⟨by (try rw [hr]); first | rfl | (push_cast; rfl), by first | rfl | trivial⟩
end Go.Proofs.Ytjlpppnpdgenfaa
