/- Turns added up, floats turned round, rows of numbers made small: plain Lean. -/
import Derived.Test.YtenoldpfclmedaaTonL1
import Derived.Test.YtenoldpfclmedaaLibJ
namespace Tone
open Go Go.Rw
theorem W_split (n : Nat) (hx : n < 9007199254740992) : ∃ r : Nat, r < 2 ^ 63 ∧ W true n = r + 2 ^ 63 ∧ W false n = r := by
  by_cases h0 : n = 0
  · rw [h0]; exact ⟨0, by decide, by decide, by decide⟩
  · have hl := log2_53 h0 hx
    have hk53 : n * 2 ^ (52 - n.log2) < 9007199254740992 := by
      have h1 : n < 2 ^ (n.log2 + 1) := Nat.lt_log2_self
      have h2 : n * 2 ^ (52 - n.log2) < 2 ^ (n.log2 + 1) * 2 ^ (52 - n.log2) := (Nat.mul_lt_mul_right (Nat.two_pow_pos _)).2 h1
      rw [← Nat.pow_add, show n.log2 + 1 + (52 - n.log2) = 53 by omega] at h2
      exact h2
    rw [W_eq _ _ h0 hx, W_eq _ _ h0 hx]
    generalize n * 2 ^ (52 - n.log2) = K at *
    generalize n.log2 = L at *
    have e4 : Ieee.double.signWeight = 9223372036854775808 := by decide
    refine ⟨(1074 + L - 52) * 4503599627370496 + K, by omega, ?_, ?_⟩
    · unfold Ieee.Format.word; rw [e4]; simp; omega
    · unfold Ieee.Format.word; rw [e4]; simp
theorem xor_top {r : Nat} (h : r < 2 ^ 63) : r ^^^ 2 ^ 63 = r + 2 ^ 63 := by
  have e : 2 ^ 63 * 1 + r = 2 ^ 63 * 1 ||| r := Nat.two_pow_add_eq_or_of_lt h 1
  rw [Nat.mul_one] at e
  rw [Nat.add_comm, e]
  apply Nat.eq_of_testBit_eq
  intro i
  rw [Nat.testBit_xor, Nat.testBit_or, Nat.testBit_two_pow]
  by_cases hi : 63 = i
  · subst hi
    rw [Nat.testBit_lt_two_pow h]; rfl
  · simp [hi]
theorem neg_Fl {b : Nat} {x : Int} (h : Fl b x) : Fl (Op.negFloat .f64 b) (-x) := by
  obtain ⟨hx, s, rfl, hs⟩ := h
  obtain ⟨r, hr, e1, e2⟩ := W_split x.natAbs hx
  have hp : Op.negFloat .f64 (W s x.natAbs) = W (!s) x.natAbs := by
    show W s x.natAbs ^^^ 2 ^ 63 = _
    cases s
    · rw [e2, xor_top hr]; exact e1.symm
    · rw [e1, ← xor_top hr, Nat.xor_assoc, Nat.xor_self, Nat.xor_zero]; exact e2.symm
  rw [hp]
  have hn : x.natAbs = (-x).natAbs := by omega
  rw [hn]
  refine Fl.mk _ (by omega) fun hne => ?_
  rw [hs (by omega)]
  by_cases h1 : x < 0
  · simp [h1]; omega
  · simp [h1]; omega
theorem cs_mod {a b : Int} (h : a % 4 = b % 4) : cs a = cs b := by unfold cs; rw [h]
theorem sn_mod {a b : Int} (h : a % 4 = b % 4) : sn a = sn b := by unfold sn; rw [h]
theorem quarter (a : Int) : a % 4 = 0 % 4 ∨ a % 4 = 1 % 4 ∨ a % 4 = 2 % 4 ∨ a % 4 = 3 % 4 := by omega
theorem turn_add (a b : Int) : cs a * cs b - sn a * sn b = cs (a + b) ∧ cs a * sn b + sn a * cs b = sn (a + b) := by
  rcases quarter a with h | h | h | h <;> rcases quarter b with k | k | k | k <;> rcases quarter (a + b) with m | m | m | m <;>
    first
    | (exfalso; omega)
    | (rw [cs_mod h, sn_mod h, cs_mod k, sn_mod k, cs_mod m, sn_mod m]; decide)
theorem cs_neg (a : Int) : cs (-a) = cs a := by
  rcases quarter a with h | h | h | h <;> simp [cs] <;> omega
theorem turn_four (a : Int) : cs (a + 4) = cs a ∧ sn (a + 4) = sn a := ⟨cs_mod (by omega), sn_mod (by omega)⟩
/-- product of two turns -/
theorem prod_Fl {a b c d : Nat} {s t : Int} (ha : Fl a (cs s)) (hb : Fl b (sn s)) (hc : Fl c (cs t)) (hd : Fl d (sn t)) : ∃ u v, cMulBits a b c d = some (u, v) ∧ Fl u (cs (s + t)) ∧ Fl v (sn (s + t)) := by
  have h1 := mul_le1 (cs s) _ (cs_le t)
  have h2 := mul_le1 (sn s) _ (sn_le t)
  have h3 := mul_le1 (cs s) _ (sn_le t)
  have h4 := mul_le1 (sn s) _ (cs_le t)
  have k1 := cs_le s
  have k2 := sn_le s
  obtain ⟨e1, e2⟩ := turn_add s t
  obtain ⟨u, v, e, f1, f2⟩ := cmul_Fl ha hb hc hd (by omega) (by omega) (by omega) (by omega) (by omega) (by omega)
  rw [e1] at f1
  rw [e2] at f2
  exact ⟨u, v, e, f1, f2⟩
end Tone
namespace Go.Proofs.Ytenoldpfclmedaa
open Go.RowKit Go.Rw Tone
theorem flBig (x : Int) (h : x.natAbs ≤ 4398046511104) : Fl (floatOfInt .f64 x) x := ofInt_Fl (by omega)
/-- numbers made small -/
def sm (x : Int) : Int := (low x 2001 : Int) - 1000
theorem sm_le (x : Int) : -1000 ≤ sm x ∧ sm x ≤ 1000 := by
  have := low_lt x 2001 (by omega)
  unfold sm; omega
def nl (xs : List Int) (n : Nat) : List Int := (List.range n).map fun i => sm (ni xs i)
theorem nl_len (xs : List Int) (n : Nat) : (nl xs n).length = n := by simp [nl]
theorem nl_ni (xs : List Int) (n i : Nat) (h : i < n) : ni (nl xs n) i = sm (ni xs i) := by simp [nl, ni, h]
theorem nl_next (xs : List Int) (n : Nat) : nl xs n ++ [sm (ni xs n)] = nl xs (n + 1) := by simp [nl, List.range_succ]
theorem nl_ok (xs : List Int) (n : Nat) : okN (nl xs n) := fun i hi => by
  rw [nl_len] at hi
  rw [nl_ni xs n i hi]
  have := sm_le (ni xs i)
  omega
/-- as one stone -/
def tight (f : Nat → Int) (m : Nat) : Prop := ∀ j, (f j).natAbs ≤ m * 1000
theorem nl_tight (xs : List Int) (N : Nat) : ∀ n, n ≤ N → tight (q4 (nl xs N) n) n
  | 0, _, j => by simp [q4]
  | n + 1, h, j => by
    have ih := nl_tight xs N n (by omega) j
    have hx := sm_le (ni xs n)
    simp only [q4, bump]
    rw [nl_ni xs N n (by omega)]
    split <;> omega
end Go.Proofs.Ytenoldpfclmedaa
