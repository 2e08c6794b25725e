/- Bytes and words as the walk meets them: 'n8 b' is the number of a byte, closed to simp. Over any program. -/
import Derived.Test.YtipniobgijdlkaaLibA
namespace Go.Rw
open Go Go.RowKit

def n8 (b : UInt8) : Nat := b.toNat
theorem n8_lt (b : UInt8) : n8 b < 256 := b.toNat_lt
theorem n8_inj {a b : UInt8} (h : n8 a = n8 b) : a = b := UInt8.toNat_inj.1 h
theorem n8_ofNat (n : Nat) (h : n < 256) : n8 (UInt8.ofNat n) = n := by
  simp only [n8, UInt8.toNat_ofNat']; omega
theorem ofNat_n8 (b : UInt8) : UInt8.ofNat (n8 b) = b := UInt8.ofNat_toNat
theorem bv_eq (b : UInt8) : bv b = .int .u8 (n8 b) := rfl

@[go_sem] theorem ofInt_n8 (b : UInt8) : UInt8.ofInt (n8 b : Int) = b := by
  apply UInt8.toNat_inj.1
  simp [UInt8.ofInt, n8]
  have := b.toNat_lt
  omega
@[go_sem] theorem ofInt_lit (n : Nat) : UInt8.ofInt (no_index (OfNat.ofNat n : Int)) = UInt8.ofNat n := by
  apply UInt8.toNat_inj.1
  show (UInt8.ofInt (n : Int)).toNat = _
  simp [UInt8.ofInt]
  omega
@[go_sem] theorem not_u8 (n : Int) : Op.unary .xor (.int .u8 n) = Op.intBits .xor .u8 255 n := rfl
theorem ofInt_toBitVec (x : Int) : (UInt8.ofInt x).toBitVec = BitVec.ofInt 8 x := by
  apply BitVec.eq_of_toNat_eq
  simp [UInt8.ofInt]
  omega
theorem wrap8_toNat (b : UInt8) : IntKind.u8.wrap (b.toBitVec.toNat : Int) = (n8 b : Int) := by
  have := b.toNat_lt
  simp only [IntKind.wrap_u8, n8]
  show ((b.toNat : Int)) % 256 = _
  omega
@[go_sem] theorem bits_xor8 (x y : Int) : bits .xor .u8 x y = ((n8 (UInt8.ofInt x ^^^ UInt8.ofInt y) : Nat) : Int) := by
  rw [← wrap8_toNat]; simp only [bits, UInt8.toBitVec_xor, ofInt_toBitVec]; rfl
@[go_sem] theorem bits_and8 (x y : Int) : bits .and .u8 x y = ((n8 (UInt8.ofInt x &&& UInt8.ofInt y) : Nat) : Int) := by
  rw [← wrap8_toNat]; simp only [bits, UInt8.toBitVec_and, ofInt_toBitVec]; rfl
@[go_sem] theorem bits_or8 (x y : Int) : bits .or .u8 x y = ((n8 (UInt8.ofInt x ||| UInt8.ofInt y) : Nat) : Int) := by
  rw [← wrap8_toNat]; simp only [bits, UInt8.toBitVec_or, ofInt_toBitVec]; rfl
/-- shifts by a number -/
def shl8 (a : UInt8) (c : Nat) : UInt8 := UInt8.ofNat (n8 a * 2 ^ c)
def shr8 (a : UInt8) (c : Nat) : UInt8 := UInt8.ofNat (n8 a / 2 ^ c)
theorem n8_shl8 (a : UInt8) (c : Nat) : n8 (shl8 a c) = n8 a * 2 ^ c % 256 := by simp [n8, shl8]
theorem n8_shr8 (a : UInt8) (c : Nat) : n8 (shr8 a c) = n8 a / 2 ^ c := by
  have h : n8 a / 2 ^ c < 256 := Nat.lt_of_le_of_lt (Nat.div_le_self _ _) (n8_lt a)
  exact n8_ofNat _ h
theorem shift_shl8 (a : UInt8) (yk : IntKind) (y : Int) (h : 0 ≤ y) : Op.shift .shl .u8 (n8 a : Int) yk y = pure (.int .u8 (n8 (shl8 a y.toNat) : Nat)) := by
  unfold Op.shift
  rw [if_neg (by omega)]
  simp only [IntKind.wrap_u8, n8_shl8]
  congr 2
  rcases Nat.lt_or_ge y.toNat 8 with h8 | h8
  · rw [Nat.min_eq_left (by simp [IntKind.bits]; omega)]
    simp only [Int.natCast_emod, Int.natCast_mul, Int.natCast_pow, Int.cast_ofNat_Int]
  · rw [Nat.min_eq_right (by simp [IntKind.bits]; omega)]
    obtain ⟨d, hd⟩ : ∃ d, y.toNat = 8 + d := ⟨y.toNat - 8, by omega⟩
    rw [hd, Nat.pow_add]
    simp only [IntKind.bits]
    have h1 : n8 a * (2 ^ 8 * 2 ^ d) % 256 = 0 := by
      rw [show n8 a * (2 ^ 8 * 2 ^ d) = 256 * (n8 a * 2 ^ d) by rw [Nat.mul_left_comm]]
      exact Nat.mul_mod_right _ _
    rw [h1]; omega
theorem shift_shr8 (a : UInt8) (yk : IntKind) (y : Int) (h : 0 ≤ y) : Op.shift .shr .u8 (n8 a : Int) yk y = pure (.int .u8 (n8 (shr8 a y.toNat) : Nat)) := by
  unfold Op.shift
  rw [if_neg (by omega)]
  simp only [n8_shr8]
  congr 2
  rw [Int.fdiv_eq_ediv_of_nonneg _ (Int.pow_nonneg (by decide))]
  rcases Nat.lt_or_ge y.toNat 8 with h8 | h8
  · rw [Nat.min_eq_left (by simp [IntKind.bits]; omega)]
    simp only [Int.natCast_ediv, Int.natCast_pow, Int.cast_ofNat_Int]
  · rw [Nat.min_eq_right (by simp [IntKind.bits]; omega)]
    have h1 : n8 a / 2 ^ y.toNat = 0 := Nat.div_eq_of_lt (Nat.lt_of_lt_of_le (n8_lt a) (Nat.pow_le_pow_right (n := 2) (by decide) h8))
    rw [h1]
    have := n8_lt a
    simp only [IntKind.bits]; omega
/-- comparisons -/
@[go_sem] theorem n8_beq (a b : UInt8) : (n8 a == n8 b) = (a == b) := by
  rw [Bool.eq_iff_iff]; simp only [beq_iff_eq]; exact ⟨n8_inj, fun h => by rw [h]⟩
@[go_sem] theorem n8_bne (a b : UInt8) : (n8 a != n8 b) = (a != b) := by simp only [bne, n8_beq]
@[go_sem] theorem n8_eq (a b : UInt8) : n8 a = n8 b ↔ a = b := ⟨n8_inj, fun h => by rw [h]⟩
@[go_sem] theorem n8_ibeq (a b : UInt8) : ((n8 a : Int) == (n8 b : Int)) = (a == b) := by
  rw [Bool.eq_iff_iff]; simp only [beq_iff_eq]; exact ⟨fun h => n8_inj (by omega), fun h => by rw [h]⟩
@[go_sem] theorem n8_ibne (a b : UInt8) : ((n8 a : Int) != (n8 b : Int)) = (a != b) := by simp only [bne, n8_ibeq]
@[go_sem] theorem n8_ibeq_lit (a : UInt8) (n : Nat) (h : decide (n < 256) = true) : ((n8 a : Int) == (no_index (OfNat.ofNat n : Int))) = (a == UInt8.ofNat n) := by
  rw [Bool.eq_iff_iff]; simp only [beq_iff_eq]
  have hn : n < 256 := by simpa using h
  constructor
  · intro e; apply n8_inj; rw [n8_ofNat n hn]; have e' : (n8 a : Int) = (n : Int) := e; omega
  · intro e; rw [e, n8_ofNat n hn]; rfl
@[go_sem] theorem n8_ibne_lit (a : UInt8) (n : Nat) (h : decide (n < 256) = true) : ((n8 a : Int) != (no_index (OfNat.ofNat n : Int))) = (a != UInt8.ofNat n) := by simp only [bne, n8_ibeq_lit a n h]

/-- An element; 0 beyond the end. Closed to simp. -/
def nth (l : List UInt8) (i : Nat) : UInt8 := l[i]?.getD 0
theorem bvs_getElem? (l : List UInt8) (k : Nat) : (bvs l)[k]? = if k < l.length then some (.int .u8 (n8 (nth l k) : Nat)) else none := by
  by_cases h : k < l.length
  · rw [if_pos h]; simp [nth, bvs, bv, n8, h]
  · rw [if_neg h]; simp [bvs]; omega
theorem bvs_setn (l : List UInt8) (k : Nat) (b : UInt8) : (bvs l).setIfInBounds k (.int .u8 (n8 b : Nat)) = bvs (l.set k b) := bvs_set l k b
theorem bvs_toArray (l : List UInt8) : (l.map fun b => Value.int .u8 (n8 b : Nat)).toArray = bvs l := rfl
end Go.Rw
