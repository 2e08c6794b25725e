/- Words of 64 bits as the walk meets them: 'n64 x' is a word's number, closed to simp. Over any program. -/
import Derived.Test.YtjlpppnpdgenfaaMvb1
namespace Go.Rw
open Go Go.RowKit
def n64 (x : UInt64) : Nat := x.toNat
theorem n64_lt (x : UInt64) : n64 x < 18446744073709551616 := x.toNat_lt
theorem n64_inj {a b : UInt64} (h : n64 a = n64 b) : a = b := UInt64.toNat_inj.1 h
theorem n64_ofNat (n : Nat) (h : n < 18446744073709551616) : n64 (UInt64.ofNat n) = n := by
 simp only [n64, UInt64.toNat_ofNat']; omega
def wide (b : UInt8) : UInt64 := UInt64.ofNat (n8 b)
def low8 (x : UInt64) : UInt8 := UInt8.ofNat (n64 x % 256)
theorem n64_wide (b : UInt8) : n64 (wide b) = n8 b := n64_ofNat _ (by have := n8_lt b; omega)
theorem n8_low8 (x : UInt64) : n8 (low8 x) = n64 x % 256 := n8_ofNat _ (Nat.mod_lt _ (by decide))
theorem ofInt64 (n : Nat) (h : n < 18446744073709551616) : n64 (UInt64.ofInt (n : Int)) = n := by
 simp [UInt64.ofInt, n64]; omega
@[go_sem] theorem ofInt_n64 (x : UInt64) : UInt64.ofInt (n64 x : Int) = x := n64_inj (ofInt64 _ (n64_lt x))
@[go_sem] theorem ofInt64_n8 (b : UInt8) : UInt64.ofInt (n8 b : Int) = wide b := n64_inj (by rw [ofInt64 _ (by have := n8_lt b; omega), n64_wide])
@[go_sem] theorem ofInt64_lit (n : Nat) : UInt64.ofInt (no_index (OfNat.ofNat n : Int)) = UInt64.ofNat n := by
 apply UInt64.toNat_inj.1
 show (UInt64.ofInt (n : Int)).toNat = _
 simp [UInt64.ofInt]
 omega
theorem ofInt64_toBitVec (x : Int) : (UInt64.ofInt x).toBitVec = BitVec.ofInt 64 x := by
 apply BitVec.eq_of_toNat_eq
 simp [UInt64.ofInt]
 omega
theorem wrap64u_toNat (b : UInt64) : IntKind.u64.wrap (b.toBitVec.toNat : Int) = (n64 b : Int) := by
 have := b.toNat_lt
 simp only [IntKind.wrap, IntKind.signed, IntKind.bits, n64]
 show ((b.toNat : Int)) % _ = _
 simp; omega
@[go_sem] theorem bits_xor64 (x y : Int) : bits .xor .u64 x y = ((n64 (UInt64.ofInt x ^^^ UInt64.ofInt y) : Nat) : Int) := by
 rw [← wrap64u_toNat]; simp only [bits, UInt64.toBitVec_xor, ofInt64_toBitVec]; rfl
@[go_sem] theorem bits_and64 (x y : Int) : bits .and .u64 x y = ((n64 (UInt64.ofInt x &&& UInt64.ofInt y) : Nat) : Int) := by
 rw [← wrap64u_toNat]; simp only [bits, UInt64.toBitVec_and, ofInt64_toBitVec]; rfl
@[go_sem] theorem bits_or64 (x y : Int) : bits .or .u64 x y = ((n64 (UInt64.ofInt x ||| UInt64.ofInt y) : Nat) : Int) := by
 rw [← wrap64u_toNat]; simp only [bits, UInt64.toBitVec_or, ofInt64_toBitVec]; rfl
def shl64 (a : UInt64) (c : Nat) : UInt64 := UInt64.ofNat (n64 a * 2 ^ c)
def shr64 (a : UInt64) (c : Nat) : UInt64 := UInt64.ofNat (n64 a / 2 ^ c)
theorem n64_shl64 (a : UInt64) (c : Nat) : n64 (shl64 a c) = n64 a * 2 ^ c % 18446744073709551616 := by simp [n64, shl64]
theorem n64_shr64 (a : UInt64) (c : Nat) : n64 (shr64 a c) = n64 a / 2 ^ c := by
 have h : n64 a / 2 ^ c < 18446744073709551616 := Nat.lt_of_le_of_lt (Nat.div_le_self _ _) (n64_lt a)
 exact n64_ofNat _ h
theorem shift_shl64 (a : UInt64) (yk : IntKind) (y : Int) (h : 0 ≤ y) : Op.shift .shl .u64 (n64 a : Int) yk y = pure (.int .u64 (n64 (shl64 a y.toNat) : Nat)) := by
 unfold Op.shift
 rw [if_neg (by omega)]
 simp only [n64_shl64]
 congr 2
 have hw : ∀ x : Int, IntKind.u64.wrap x = x % 18446744073709551616 := fun x => by simp [IntKind.wrap, IntKind.signed, IntKind.bits]
 rw [hw]
 rcases Nat.lt_or_ge y.toNat 64 with h8 | h8
 ·rw [Nat.min_eq_left (by simp [IntKind.bits]; omega)]
  simp only [Int.natCast_emod, Int.natCast_mul, Int.natCast_pow, Int.cast_ofNat_Int]
 ·rw [Nat.min_eq_right (by simp [IntKind.bits]; omega)]
  obtain ⟨d, hd⟩ : ∃ d, y.toNat = 64 + d := ⟨y.toNat - 64, by omega⟩
  rw [hd, Nat.pow_add]
  simp only [IntKind.bits]
  have h1 : n64 a * (2 ^ 64 * 2 ^ d) % 18446744073709551616 = 0 := by
   rw [show n64 a * (2 ^ 64 * 2 ^ d) = 18446744073709551616 * (n64 a * 2 ^ d) by rw [Nat.mul_left_comm]]
   exact Nat.mul_mod_right _ _
  rw [h1]; omega
theorem shift_shr64 (a : UInt64) (yk : IntKind) (y : Int) (h : 0 ≤ y) : Op.shift .shr .u64 (n64 a : Int) yk y = pure (.int .u64 (n64 (shr64 a y.toNat) : Nat)) := by
 unfold Op.shift
 rw [if_neg (by omega)]
 simp only [n64_shr64]
 congr 2
 rw [Int.fdiv_eq_ediv_of_nonneg _ (Int.pow_nonneg (by decide))]
 rcases Nat.lt_or_ge y.toNat 64 with h8 | h8
 ·rw [Nat.min_eq_left (by simp [IntKind.bits]; omega)]
  simp only [Int.natCast_ediv, Int.natCast_pow, Int.cast_ofNat_Int]
 ·rw [Nat.min_eq_right (by simp [IntKind.bits]; omega)]
  have h1 : n64 a / 2 ^ y.toNat = 0 := Nat.div_eq_of_lt (Nat.lt_of_lt_of_le (n64_lt a) (Nat.pow_le_pow_right (n := 2) (by decide) h8))
  rw [h1]
  have := n64_lt a
  simp only [IntKind.bits]; omega
def shr32 (n c : Nat) : Nat := n / 2 ^ c
def byteOf (n c : Nat) : UInt8 := UInt8.ofNat (shr32 n c)
@[go_sem] theorem wrap8_byte (n c : Nat) : IntKind.u8.wrap ((shr32 n c : Nat) : Int) = (n8 (byteOf n c) : Nat) := by
 simp only [IntKind.wrap_u8, n8, byteOf, UInt8.toNat_ofNat']; rfl
theorem shift_shr32 (n : Nat) (hn : n < 4294967296) (yk : IntKind) (y : Int) (h : 0 ≤ y) : Op.shift .shr .u32 (n : Int) yk y = pure (.int .u32 (shr32 n y.toNat : Nat)) := by
 unfold Op.shift shr32
 rw [if_neg (by omega)]
 dsimp only
 congr 2
 rw [Int.fdiv_eq_ediv_of_nonneg _ (Int.pow_nonneg (by decide))]
 rcases Nat.lt_or_ge y.toNat 32 with h8 | h8
 ·rw [Nat.min_eq_left (by simp [IntKind.bits]; omega)]
  simp only [Int.natCast_ediv, Int.natCast_pow, Int.cast_ofNat_Int]
 ·rw [Nat.min_eq_right (by simp [IntKind.bits]; omega)]
  have h1 : n / 2 ^ y.toNat = 0 := Nat.div_eq_of_lt (Nat.lt_of_lt_of_le hn (Nat.pow_le_pow_right (n := 2) (by decide) h8))
  rw [h1]
  simp only [IntKind.bits]; omega
@[go_sem] theorem n64_ibeq_lit (a : UInt64) (n : Nat) (h : decide (n < 18446744073709551616) = true) : ((n64 a : Int) == (no_index (OfNat.ofNat n : Int))) = (a == UInt64.ofNat n) := by
 rw [Bool.eq_iff_iff]; simp only [beq_iff_eq]
 have hn : n < 18446744073709551616 := by simpa using h
 constructor
 ·intro e; apply n64_inj; rw [n64_ofNat n hn]; have e' : (n64 a : Int) = (n : Int) := e; omega
 ·intro e; rw [e, n64_ofNat n hn]; rfl
@[go_sem] theorem low8_mod (x : UInt64) : ((n64 x : Nat) : Int) % 256 = (n8 (low8 x) : Nat) := by rw [n8_low8]; rfl
@[go_sem] theorem wrap64_n8 (b : UInt8) : IntKind.u64.wrap (n8 b : Int) = (n64 (wide b) : Nat) := by
 have := n8_lt b
 rw [n64_wide]; simp only [IntKind.wrap, IntKind.signed, IntKind.bits]; simp; omega
@[go_sem] theorem wrap8_n64 (x : UInt64) : IntKind.u8.wrap (n64 x : Int) = (n8 (low8 x) : Nat) := by
 rw [n8_low8]; simp only [IntKind.wrap_u8]; rfl
@[go_sem] theorem wrap64_mul (a : UInt64) (n : Nat) : IntKind.u64.wrap ((n64 a : Int) * (no_index (OfNat.ofNat n : Int))) = (n64 (a * UInt64.ofNat n) : Nat) := by
 show IntKind.u64.wrap ((n64 a : Int) * (n : Int)) = _
 have e : n64 (a * UInt64.ofNat n) = n64 a * n % 18446744073709551616 := by simp [n64, UInt64.toNat_mul]
 rw [e]; simp only [IntKind.wrap, IntKind.signed, IntKind.bits]; simp
theorem mod_byte (m : Nat) : ((m : Nat) : Int) % 256 = (n8 (UInt8.ofNat m) : Nat) := by
 simp only [n8, UInt8.toNat_ofNat']; rfl
end Go.Rw
