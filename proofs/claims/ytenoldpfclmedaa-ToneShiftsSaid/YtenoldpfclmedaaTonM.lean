/- Turns in plain Lean: quarters of a turn, the four numbers of a row, what they are heard as. -/
import Derived.Test.YtenoldpfclmedaaTonF
import Derived.Test.YtenoldpfclmedaaLibB
namespace Tone
open Go
/-- a power of a quarter's turn, its two parts -/
def cs (t : Int) : Int := if t % 4 = 0 then 1 else if t % 4 = 2 then -1 else 0
def sn (t : Int) : Int := if t % 4 = 1 then -1 else if t % 4 = 3 then 1 else 0
theorem and3 (x : Int) : bits .and .i64 x 3 = x % 4 := by
  unfold bits
  have h2 : (BitVec.ofInt 64 x &&& BitVec.ofInt 64 3).toNat = (BitVec.ofInt 64 x).toNat % 4 := by
    rw [BitVec.toNat_and, show (BitVec.ofInt 64 3).toNat = 2 ^ 2 - 1 from rfl, Nat.and_two_pow_sub_one_eq_mod]
  have h3 : ((BitVec.ofInt 64 x).toNat : Int) = x % 18446744073709551616 := by
    rw [BitVec.toNat_ofInt]; simp; omega
  show IntKind.i64.wrap ((BitVec.ofInt 64 x &&& BitVec.ofInt 64 3).toNat : Int) = _
  rw [h2]
  generalize (BitVec.ofInt 64 x).toNat = n at h3
  have : IntKind.i64.wrap ((n % 4 : Nat) : Int) = ((n % 4 : Nat) : Int) := by
    clear h2 h3; have := Nat.mod_lt n (show 0 < 4 by decide); generalize n % 4 = m at this; exact IntWalk.i64_in _ ⟨by omega, by omega⟩
  rw [this]; omega
theorem fl0 : Fl 0 0 := by
  have h : W false (0 : Int).natAbs = 0 := by decide
  have := Fl.mk (x := 0) false (by decide) (fun h => absurd rfl h)
  rwa [h] at this
theorem fl1 : Fl 4607182418800017408 1 := by
  have h : W false (1 : Int).natAbs = 4607182418800017408 := by decide
  have := Fl.mk (x := 1) false (by decide) (fun _ => by decide)
  rwa [h] at this
theorem flm1 : Fl 13830554455654793216 (-1) := by
  have h : W true (-1 : Int).natAbs = 13830554455654793216 := by decide
  have := Fl.mk (x := -1) true (by decide) (fun _ => by decide)
  rwa [h] at this
/-- Abs clears the sign. -/
theorem abs_Fl {b : Nat} {x : Int} (h : Fl b x) : ∃ c : Nat, bits .andNot .u64 (b : Nat) 9223372036854775808 = (c : Int) ∧ Fl c x.natAbs := by
  obtain ⟨hx, s, rfl, hs⟩ := h
  refine ⟨W false x.natAbs, ?_, Fl.mk (x := (x.natAbs : Int)) false (by omega) (fun _ => by simp)⟩
  have hlt := Ieee.Format.nearest_lt Ieee.double false x.natAbs 0
  have hword : ∃ r : Nat, r < 9223372036854775808 ∧ W s x.natAbs = r + (if s then 9223372036854775808 else 0) ∧ W false x.natAbs = r := by
    by_cases h0 : x.natAbs = 0
    · rw [h0]; cases s <;> exact ⟨0, by decide, by decide, by decide⟩
    · have hl := log2_53 h0 hx
      have hk53 : x.natAbs * 2 ^ (52 - x.natAbs.log2) < 9007199254740992 := by
        have h1 : x.natAbs < 2 ^ (x.natAbs.log2 + 1) := Nat.lt_log2_self
        have h2 : x.natAbs * 2 ^ (52 - x.natAbs.log2) < 2 ^ (x.natAbs.log2 + 1) * 2 ^ (52 - x.natAbs.log2) := (Nat.mul_lt_mul_right (Nat.two_pow_pos _)).2 h1
        rw [← Nat.pow_add, show x.natAbs.log2 + 1 + (52 - x.natAbs.log2) = 53 by omega] at h2
        exact h2
      rw [W_eq _ _ h0 hx, W_eq _ _ h0 hx]
      generalize x.natAbs * 2 ^ (52 - x.natAbs.log2) = K at *
      generalize x.natAbs.log2 = L at *
      have e4 : Ieee.double.signWeight = 9223372036854775808 := by decide
      refine ⟨(1074 + L - 52) * 4503599627370496 + K, by omega, ?_, ?_⟩
      · unfold Ieee.Format.word; rw [e4]; cases s <;> simp <;> omega
      · unfold Ieee.Format.word; rw [e4]; simp
  obtain ⟨r, hr, e1, e2⟩ := hword
  rw [e1, e2]
  clear e1 e2 hlt hs hx
  have key : (BitVec.ofInt 64 ((r + (if s then 9223372036854775808 else 0) : Nat) : Int) &&& ~~~BitVec.ofInt 64 9223372036854775808).toNat = r := by
    have e : BitVec.ofInt 64 ((r + (if s then 9223372036854775808 else 0) : Nat) : Int) = BitVec.ofNat 64 (r + (if s then 9223372036854775808 else 0)) := by
      rw [BitVec.ofInt_natCast]
    rw [e, show (~~~BitVec.ofInt 64 9223372036854775808) = BitVec.ofNat 64 (2 ^ 63 - 1) by decide, BitVec.toNat_and, BitVec.toNat_ofNat, BitVec.toNat_ofNat, Nat.mod_eq_of_lt (show 2 ^ 63 - 1 < 2 ^ 64 by decide), Nat.and_two_pow_sub_one_eq_mod]
    cases s <;> simp <;> omega
  show IntKind.u64.wrap ((BitVec.ofInt 64 ((r + (if s then 9223372036854775808 else 0) : Nat) : Int) &&& ~~~BitVec.ofInt 64 9223372036854775808).toNat : Int) = _
  rw [key]
  exact IntWalk.u64_in _ ⟨by omega, by omega⟩
theorem integral_Fl {b : Nat} {x : Int} (h : Fl b x) : Ieee.double.write ((Ieee.double.read b).integral .zero) = b := by
  have hi := toInt_Fl h
  obtain ⟨hx, s, rfl, hs⟩ := h
  by_cases h0 : x = 0
  · subst h0; cases s <;> decide
  · have ha : x.natAbs ≠ 0 := by omega
    rw [read_W s _ ha hx] at hi ⊢
    unfold Ieee.Datum.toInt at hi
    unfold Ieee.Datum.integral at hi ⊢
    simp only at hi ⊢
    generalize Ieee.Toward.zero.cut s ((x.natAbs * 2 ^ (52 - x.natAbs.log2)) <<< ((x.natAbs.log2 : Int) - 52).toNat) (-((x.natAbs.log2 : Int) - 52)).toNat = c at hi ⊢
    have : c = x.natAbs := by
      have h' : Ieee.signed s c 0 = x := by simpa using hi
      unfold Ieee.signed at h'
      simp at h'
      rw [hs h0] at h'
      by_cases hx : x < 0
      · simp [hx] at h'; omega
      · simp [hx] at h'; omega
    subst this
    rfl
end Tone
