/- Plain facts on bytes: the box, and doubling. No program in sight. -/
import Derived.Test.YtdfblojnkchpdaaAesM
namespace Aes
open Go.Rw
theorem all8 {p : UInt8 → Prop} [DecidablePred p] (h : (List.range 256).all (fun n => decide (p (UInt8.ofNat n))) = true) (a : UInt8) : p a := by
  have := List.all_eq_true.1 h (n8 a) (by simpa using n8_lt a)
  rw [ofNat_n8] at this
  simpa using this
def inverse (b : UInt8) : UInt8 := UInt8.ofNat (boxTab.idxOf b)
theorem inverse_box (a : UInt8) : inverse (box a) = a := all8 (p := fun a => inverse (box a) = a) (by decide +kernel) a
theorem box_inj (a b : UInt8) : (box a == box b) = (a == b) := by
  rw [Bool.eq_iff_iff]; simp only [beq_iff_eq]
  exact ⟨fun h => by rw [← inverse_box a, h, inverse_box], fun h => by rw [h]⟩
theorem box_ne (a : UInt8) : (box a != a) = true := all8 (p := fun a => (box a != a) = true) (by decide +kernel) a
theorem box_not (a : UInt8) : (box a != 255 ^^^ a) = true := all8 (p := fun a => (box a != 255 ^^^ a) = true) (by decide +kernel) a
def dbl : Nat → UInt8 → UInt8
  | 0, a => a
  | n + 1, a => double (dbl n a)
theorem dbl_eight (a : UInt8) : (dbl 8 a == a ^^^ double a ^^^ double (double (double a)) ^^^ double (double (double (double a)))) = true :=
  all8 (p := fun a => (dbl 8 a == a ^^^ double a ^^^ double (double (double a)) ^^^ double (double (double (double a)))) = true) (by decide +kernel) a
theorem n8_xor (a b : UInt8) : n8 (a ^^^ b) = n8 a ^^^ n8 b := UInt8.toNat_xor ..
/-- doubling, bit by bit -/
theorem double_lin (a b : UInt8) : double (a ^^^ b) = double a ^^^ double b := by
  have hs : shl8 (a ^^^ b) 1 = shl8 a 1 ^^^ shl8 b 1 := by
    apply n8_inj
    rw [n8_xor, n8_shl8, n8_shl8, n8_shl8, n8_xor]
    apply Nat.eq_of_testBit_eq
    intro i
    rw [show (256 : Nat) = 2 ^ 8 from rfl]
    simp only [Nat.testBit_xor, Nat.testBit_mod_two_pow, Nat.testBit_mul_two_pow]
    cases decide (i < 8) <;> cases decide (1 ≤ i) <;> rfl
  have hm : ((a ^^^ b) &&& 128 != 0) = ((a &&& 128 != 0) != (b &&& 128 != 0)) := by
    have key : ∀ x : UInt8, (x &&& 128 != 0) = (n8 x).testBit 7 := fun x => all8 (p := fun x => (x &&& 128 != 0) = (n8 x).testBit 7) (by decide +kernel) x
    rw [key, key, key, n8_xor, Nat.testBit_xor]
  unfold double
  rw [hm, hs]
  have c27 : ∀ x y : UInt8, x ^^^ y ^^^ 27 = x ^^^ 27 ^^^ y := fun x y => by rw [UInt8.xor_assoc, UInt8.xor_comm y, ← UInt8.xor_assoc]
  have e : ∀ x y z : UInt8, x ^^^ y = x ^^^ z ^^^ (y ^^^ z) := fun x y z => by
    rw [UInt8.xor_assoc, ← UInt8.xor_assoc z y z, UInt8.xor_comm z y, UInt8.xor_assoc y z z, UInt8.xor_self, UInt8.xor_zero]
  cases (a &&& 128 != 0) <;> cases (b &&& 128 != 0)
  · rfl
  · exact UInt8.xor_assoc _ _ _
  · exact c27 _ _
  · exact e _ _ _
end Aes
