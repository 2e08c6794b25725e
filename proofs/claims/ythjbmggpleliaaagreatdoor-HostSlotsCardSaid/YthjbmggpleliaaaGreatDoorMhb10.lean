/- GcmT; GcmR2. -/
import Derived.Test.YthjbmggpleliaaaGreatDoorMhb9
import Derived.Test.YthjbmggpleliaaaGreatDoorMhb7
import Derived.Test.YthjbmggpleliaaaGreatDoorMhb1
section
namespace Gcm
open Go.Rw Aes
theorem n64_xor (a b : UInt64) : n64 (a ^^^ b) = n64 a ^^^ n64 b := UInt64.toNat_xor ..
theorem n64_or (a b : UInt64) : n64 (a ||| b) = n64 a ||| n64 b := UInt64.toNat_or ..
theorem n64_and (a b : UInt64) : n64 (a &&& b) = n64 a &&& n64 b := UInt64.toNat_and ..
theorem n8_or (a b : UInt8) : n8 (a ||| b) = n8 a ||| n8 b := UInt8.toNat_or ..
theorem n8_and (a b : UInt8) : n8 (a &&& b) = n8 a &&& n8 b := UInt8.toNat_and ..
theorem tb_high64 (a : UInt64) (j : Nat) (h : 64 ≤ j) : (n64 a).testBit j = false := Nat.testBit_lt_two_pow (Nat.lt_of_lt_of_le (n64_lt a) (by rw [show (18446744073709551616 : Nat) = 2 ^ 64 from rfl]; exact Nat.pow_le_pow_right (by decide) h))
theorem tb_high8 (a : UInt8) (j : Nat) (h : 8 ≤ j) : (n8 a).testBit j = false := Nat.testBit_lt_two_pow (Nat.lt_of_lt_of_le (n8_lt a) (by rw [show (256 : Nat) = 2 ^ 8 from rfl]; exact Nat.pow_le_pow_right (by decide) h))
theorem tb_shr64 (a : UInt64) (c j : Nat) : (n64 (shr64 a c)).testBit j = (n64 a).testBit (c + j) := by rw [n64_shr64, Nat.testBit_div_two_pow, Nat.add_comm]
theorem tb_shl64 (a : UInt64) (c j : Nat) (h : j < 64) : (n64 (shl64 a c)).testBit j = (decide (c ≤ j) && (n64 a).testBit (j - c)) := by
 rw [n64_shl64, show (18446744073709551616 : Nat) = 2 ^ 64 from rfl, Nat.testBit_mod_two_pow, Nat.testBit_mul_two_pow]; simp [h]
theorem tb_shr8 (a : UInt8) (c j : Nat) : (n8 (shr8 a c)).testBit j = (n8 a).testBit (c + j) := by rw [n8_shr8, Nat.testBit_div_two_pow, Nat.add_comm]
theorem tb_shl8 (a : UInt8) (c j : Nat) (h : j < 8) : (n8 (shl8 a c)).testBit j = (decide (c ≤ j) && (n8 a).testBit (j - c)) := by
 rw [n8_shl8, show (256 : Nat) = 2 ^ 8 from rfl, Nat.testBit_mod_two_pow, Nat.testBit_mul_two_pow]; simp [h]
theorem one64 (a : UInt64) (c : Nat) : (shr64 a c &&& 1 == 1) = (n64 a).testBit c := by
 have e : (shr64 a c &&& 1 == 1) = decide (n64 (shr64 a c &&& 1) = 1) := by
  rw [Bool.eq_iff_iff]; simp only [beq_iff_eq, decide_eq_true_eq]
  exact ⟨fun h => by rw [h]; rfl, fun h => n64_inj h⟩
 rw [e, n64_and, show n64 1 = 1 from rfl, Nat.and_one_is_mod, n64_shr64, Nat.testBit_eq_decide_div_mod_eq]
theorem one8 (a : UInt8) (c : Nat) : (shr8 a c &&& 1 == 1) = (n8 a).testBit c := by
 have e : (shr8 a c &&& 1 == 1) = decide (n8 (shr8 a c &&& 1) = 1) := by
  rw [Bool.eq_iff_iff]; simp only [beq_iff_eq, decide_eq_true_eq]
  exact ⟨fun h => by rw [h]; rfl, fun h => n8_inj h⟩
 rw [e, n8_and, show n8 1 = 1 from rfl, Nat.and_one_is_mod, n8_shr8, Nat.testBit_eq_decide_div_mod_eq]
def bitW (w : Wd) (i : Nat) : Bool := if 64 ≤ i then (n64 w.2).testBit (127 - i) else (n64 w.1).testBit (63 - i)
def bitB (l : List UInt8) (i : Nat) : Bool := (n8 (nth l (i / 8))).testBit (7 - i % 8)
theorem bit_eq (w : Wd) (i : Nat) (h : i < 128) : bit w i = bitW w i := by
 unfold bit bitW
 split
 ·rw [one64]; congr 1; omega
 ·rw [one64]; congr 1; omega
theorem rbit_eq (x : List UInt8) (i : Nat) : rbit x i = bitB x i := one8 _ _
theorem bitW_xor (a b : Wd) (i : Nat) : bitW (wxor a b) i = (bitW a i ^^ bitW b i) := by
 unfold bitW wxor
 split <;> simp only [n64_xor, Nat.testBit_xor]
theorem bitB_add (a b : List UInt8) (i : Nat) (h : i < 128) : bitB (add a b) i = (bitB a i ^^ bitB b i) := by
 unfold bitB add
 rw [row16_get (by omega), addF, n8_xor, Nat.testBit_xor]
def red (i : Nat) : Bool := i == 0 || i == 1 || i == 2 || i == 7
theorem poly_bits : ∀ j, j < 64 → (n64 poly).testBit j = red (63 - j) := by decide +kernel
theorem and_one (a : UInt64) : a &&& 1 = if (n64 a).testBit 0 then 1 else 0 := by
 apply n64_inj
 rw [n64_and, show n64 1 = 1 from rfl, Nat.and_one_is_mod, Nat.testBit_zero]
 rcases Nat.mod_two_eq_zero_or_one (n64 a) with h | h <;> simp [h] <;> rfl
theorem bitW_mulX (y : Wd) (i : Nat) (h : i < 128) : bitW (mulX y) i = ((if i = 0 then false else bitW y (i - 1)) ^^ (bitW y 127 && red i)) := by
 have h127 : bitW y 127 = (n64 y.2).testBit 0 := rfl
 rw [h127]
 unfold mulX
 by_cases h64 : 64 ≤ i
 ·have hr : red i = false := by unfold red; simp; omega
  rw [hr, Bool.and_false, Bool.xor_false, if_neg (by omega)]
  unfold bitW
  rw [if_pos h64]
  simp only
  rw [n64_or, Nat.testBit_or, tb_shr64, tb_shl64 _ _ _ (by omega)]
  by_cases e : i = 64
  ·subst e; simp [tb_high64]
  ·rw [if_pos (by omega), show 1 + (127 - i) = 127 - (i - 1) by omega]
   simp [show ¬ 63 ≤ 127 - i by omega]
 ·have e1 : (n64 ((y.2 &&& 1) * poly)).testBit (63 - i) = ((n64 y.2).testBit 0 && red i) := by
   rw [and_one]
   cases (n64 y.2).testBit 0
   ·have : (0 : UInt64) * poly = 0 := by decide +kernel
    simp [this, n64]
   ·have : (1 : UInt64) * poly = poly := by decide +kernel
    simp [this, poly_bits (63 - i) (by omega), show 63 - (63 - i) = i by omega]
  unfold bitW
  rw [if_neg h64]
  simp only
  rw [n64_xor, Nat.testBit_xor, e1, tb_shr64]
  congr 1
  by_cases e : i = 0
  ·subst e; rw [if_pos rfl]; exact tb_high64 _ _ (by omega)
  ·rw [if_neg e, if_neg (by omega)]; congr 1; omega
theorem bitB_rmul (v : List UInt8) (i : Nat) (h : i < 128) : bitB (rmul v) i = ((if i = 0 then false else bitB v (i - 1)) ^^ (bitB v 127 && red i)) := by
 have h127 : bitB v 127 = (nth v 15 &&& 1 == 1) := by
  have := one8 (nth v 15) 0
  have e : shr8 (nth v 15) 0 = nth v 15 := by apply n8_inj; rw [n8_shr8]; simp
  rw [e] at this
  rw [this]; rfl
 unfold bitB at *
 rw [rmul_get (by omega), rmulF]
 by_cases h8 : i / 8 = 0
 ·rw [if_pos h8, h127]
  have sh : (n8 (shr8 (nth v 0) 1)).testBit (7 - i % 8) = (if i = 0 then false else (n8 (nth v ((i - 1) / 8))).testBit (7 - (i - 1) % 8)) := by
   rw [tb_shr8]
   by_cases e : i = 0
   ·subst e; rw [if_pos rfl]; exact tb_high8 _ _ (by omega)
   ·rw [if_neg e, show (i - 1) / 8 = 0 by omega]; congr 1; omega
  cases hb : (nth v 15 &&& 1 == 1)
  ·simp [sh]
  ·have pol : ∀ t, t < 8 → (n8 225).testBit t = red (7 - t) := by decide +kernel
   simp only [if_true, n8_xor, Nat.testBit_xor, sh, Bool.true_and]
   congr 1
   rw [pol _ (by omega)]; congr 1; omega
 ·have hr : red i = false := by unfold red; simp; omega
  rw [if_neg h8, hr, Bool.and_false, Bool.xor_false, if_neg (by omega), rmulT, n8_or, Nat.testBit_or, tb_shr8, tb_shl8 _ _ _ (by omega)]
  by_cases e : i % 8 = 0
  ·rw [e, tb_high8 _ _ (by omega : 8 ≤ 1 + (7 - 0)), show (i - 1) / 8 = i / 8 - 1 by omega, show 7 - (i - 1) % 8 = 0 by omega]
   simp
  ·rw [show (i - 1) / 8 = i / 8 by omega, show 1 + (7 - i % 8) = 7 - (i - 1) % 8 by omega]
   simp [show ¬ 7 ≤ 7 - i % 8 by omega]
def Corr (b : List UInt8) (w : Wd) : Prop := ∀ i, i < 128 → bitB b i = bitW w i
theorem Corr.step {z v x : List UInt8} {Z V X : Wd} {n : Nat} (hn : n < 128) (hz : Corr z Z) (hv : Corr v V) (hx : Corr x X) : Corr (rstep x n (z, v)).1 (gstep X n (Z, V)).1 ∧ Corr (rstep x n (z, v)).2 (gstep X n (Z, V)).2 := by
 refine ⟨?_, fun i hi => ?_⟩
 ·intro i hi
  simp only [rstep, gstep]
  rw [bit_eq _ _ hn, rbit_eq, hx n hn]
  cases bitW X n
  ·exact hz i hi
  ·simp only [if_true]
   rw [bitB_add _ _ _ hi, bitW_xor, hz i hi, hv i hi]
 ·simp only [rstep, gstep]
  rw [bitB_rmul _ _ hi, bitW_mulX _ _ hi, hv 127 (by omega)]
  by_cases e : i = 0
  ·simp [e]
  ·rw [if_neg e, if_neg e, hv (i - 1) (by omega)]
def eK : Nat → Wd
 | 0 => (UInt64.ofNat 9223372036854775808, 0)
 | k + 1 => mulX (eK k)
def part (w : Wd) : Nat → Wd
 | 0 => (0, 0)
 | n + 1 => if bitW w n then wxor (part w n) (eK n) else part w n
end Gcm

end
section


end
