/- Whole numbers below 2^53 in doubles are exact: the model's words, in plain Lean. No condition. -/
import Derived.Laws.ComplexArith
namespace Tone
open Ieee
theorem cut_zero (neg : Bool) (n : Nat) : Toward.even.cut neg n 0 = n := by
  unfold Toward.cut
  simp [Nat.mod_one]
theorem cut_exact (neg : Bool) (a d : Nat) (ha : a ≠ 0) : Toward.even.cut neg (a * 2 ^ d) d = a := by
  have hlog : d ≤ (a * 2 ^ d).log2 + 2 := by
    have := (Nat.le_log2 (n := a * 2 ^ d) (k := d) (by have := Nat.two_pow_pos d; exact Nat.mul_ne_zero ha (by omega))).2 (Nat.le_mul_of_pos_left _ (Nat.pos_of_ne_zero ha))
    omega
  unfold Toward.cut
  rw [Nat.min_eq_left hlog, Nat.one_shiftLeft]
  have h1 : a * 2 ^ d / 2 ^ d = a := Nat.mul_div_cancel _ (Nat.two_pow_pos d)
  have h2 : a * 2 ^ d % 2 ^ d = 0 := Nat.mul_mod_left _ _
  simp only [h1, h2]
  have := Nat.two_pow_pos d
  have h3 : ((2 : Nat) ^ d == 2 * 0) = false := by simp
  simp
theorem log2_mul (a k : Nat) (ha : a ≠ 0) : (a * 2 ^ k).log2 = a.log2 + k := by
  have hp := Nat.two_pow_pos k
  refine (Nat.log2_eq_iff (Nat.mul_ne_zero ha (by omega))).2 ⟨?_, ?_⟩
  · rw [Nat.pow_add]; exact Nat.mul_le_mul_right _ (Nat.log2_self_le ha)
  · rw [show a.log2 + k + 1 = (a.log2 + 1) + k by omega, Nat.pow_add]; exact (Nat.mul_lt_mul_right hp).2 Nat.lt_log2_self
/-- The word of a whole number, with a sign. -/
def W (neg : Bool) (a : Nat) : Nat := double.nearest neg a 0
theorem log2_53 {a : Nat} (ha : a ≠ 0) (h : a < 9007199254740992) : a.log2 ≤ 52 := by
  have := (Nat.log2_lt ha (k := 53)).2 h
  omega
/-- What is written does not hang on how it is told. -/
theorem nearest_scale (neg : Bool) (a k : Nat) (ha : a ≠ 0) (h : a < 9007199254740992) : double.nearest neg (a * 2 ^ k) (-(k : Int)) = double.word neg ((1074 + a.log2 - 52) * 4503599627370496 + a * 2 ^ (52 - a.log2)) := by
  have hl := log2_53 ha h
  have hlog := log2_mul a k ha
  have hne : a * 2 ^ k ≠ 0 := Nat.mul_ne_zero ha (by have := Nat.two_pow_pos k; omega)
  unfold Format.nearest
  rw [if_neg hne, hlog]
  have e1 : double.leastPlace = -1074 := by decide
  have e2 : ((double.fractionBits : Nat) : Int) = 52 := rfl
  have e3 : double.binade = 4503599627370496 := by decide
  have elast : max (-(k : Int) + ((a.log2 + k : Nat) : Int) - (double.fractionBits : Nat)) double.leastPlace = (a.log2 : Int) - 52 := by rw [e1, e2]; omega
  simp only [elast]
  rw [e1, e3]
  have ekept : Toward.even.cut neg ((a * 2 ^ k) <<< (-(k : Int) - ((a.log2 : Int) - 52)).toNat) ((a.log2 : Int) - 52 - -(k : Int)).toNat = a * 2 ^ (52 - a.log2) := by
    by_cases hk : k ≤ 52 - a.log2
    · have h1 : (-(k : Int) - ((a.log2 : Int) - 52)).toNat = 52 - a.log2 - k := by omega
      have h2 : ((a.log2 : Int) - 52 - -(k : Int)).toNat = 0 := by omega
      rw [h1, h2, cut_zero, Nat.shiftLeft_eq, Nat.mul_assoc, ← Nat.pow_add]
      congr 2
      omega
    · have h1 : (-(k : Int) - ((a.log2 : Int) - 52)).toNat = 0 := by omega
      have h2 : ((a.log2 : Int) - 52 - -(k : Int)).toNat = k - (52 - a.log2) := by omega
      rw [h1, h2, Nat.shiftLeft_zero]
      have h3 : a * 2 ^ k = (a * 2 ^ (52 - a.log2)) * 2 ^ (k - (52 - a.log2)) := by
        rw [Nat.mul_assoc, ← Nat.pow_add]
        congr 2
        omega
      rw [h3]
      exact cut_exact neg _ _ (Nat.mul_ne_zero ha (by have := Nat.two_pow_pos (52 - a.log2); omega))
  rw [ekept]
  have hk53 : a * 2 ^ (52 - a.log2) < 9007199254740992 := by
    have h1 : a < 2 ^ (a.log2 + 1) := Nat.lt_log2_self
    have h2 : a * 2 ^ (52 - a.log2) < 2 ^ (a.log2 + 1) * 2 ^ (52 - a.log2) := (Nat.mul_lt_mul_right (Nat.two_pow_pos _)).2 h1
    rw [← Nat.pow_add, show a.log2 + 1 + (52 - a.log2) = 53 by omega] at h2
    exact h2
  have einf : double.infRung = 2047 * 4503599627370496 := by decide
  congr 1
  rw [einf, show ((a.log2 : Int) - 52 - -1074).toNat = 1074 + a.log2 - 52 by omega]
  exact Nat.min_eq_left (by omega)
theorem W_eq (neg : Bool) (a : Nat) (ha : a ≠ 0) (h : a < 9007199254740992) : W neg a = double.word neg ((1074 + a.log2 - 52) * 4503599627370496 + a * 2 ^ (52 - a.log2)) := by
  have := nearest_scale neg a 0 ha h
  simpa [W] using this
theorem nearest_W (neg : Bool) (a k : Nat) (ha : a ≠ 0) (h : a < 9007199254740992) : double.nearest neg (a * 2 ^ k) (-(k : Int)) = W neg a := by
  rw [nearest_scale neg a k ha h, W_eq neg a ha h]
theorem nearest_zero (neg : Bool) (p : Int) : double.nearest neg 0 p = W neg 0 := by
  unfold W Format.nearest
  rw [if_pos rfl, if_pos rfl]
/-- What a whole number's word reads as. -/
theorem read_W (neg : Bool) (a : Nat) (ha : a ≠ 0) (h : a < 9007199254740992) : double.read (W neg a) = .number neg (a * 2 ^ (52 - a.log2)) ((a.log2 : Int) - 52) := by
  have hl := log2_53 ha h
  rw [W_eq neg a ha h]
  have hlo : 4503599627370496 ≤ a * 2 ^ (52 - a.log2) := by
    have h2 : 2 ^ a.log2 * 2 ^ (52 - a.log2) ≤ a * 2 ^ (52 - a.log2) := Nat.mul_le_mul_right _ (Nat.log2_self_le ha)
    rw [← Nat.pow_add, show a.log2 + (52 - a.log2) = 52 by omega] at h2
    exact h2
  have hhi : a * 2 ^ (52 - a.log2) < 9007199254740992 := by
    have h1 : a < 2 ^ (a.log2 + 1) := Nat.lt_log2_self
    have h2 : a * 2 ^ (52 - a.log2) < 2 ^ (a.log2 + 1) * 2 ^ (52 - a.log2) := (Nat.mul_lt_mul_right (Nat.two_pow_pos _)).2 h1
    rw [← Nat.pow_add, show a.log2 + 1 + (52 - a.log2) = 53 by omega] at h2
    exact h2
  generalize a * 2 ^ (52 - a.log2) = K at *
  generalize a.log2 = L at *
  have e1 : double.leastPlace = -1074 := by decide
  have e3 : double.binade = 4503599627370496 := by decide
  have e4 : double.signWeight = 9223372036854775808 := by decide
  have e5 : double.infRung = 9218868437227405312 := by decide
  have hw : double.word neg ((1074 + L - 52) * 4503599627370496 + K) / 9223372036854775808 % 2 = (if neg then 1 else 0) := by
    unfold Format.word; rw [e4]; cases neg <;> simp <;> omega
  have hr : double.word neg ((1074 + L - 52) * 4503599627370496 + K) % 9223372036854775808 = (1074 + L - 52) * 4503599627370496 + K := by
    unfold Format.word; rw [e4]; cases neg <;> simp <;> omega
  unfold Format.read
  simp only [e1, e3, e4, e5, hw, hr]
  rw [if_neg (by omega), if_pos (by omega)]
  have n1 : ((if neg = true then (1 : Nat) else 0) == 1) = neg := by cases neg <;> rfl
  rw [n1]
  have n2 : 4503599627370496 + ((1074 + L - 52) * 4503599627370496 + K) % 4503599627370496 = K := by omega
  have n3 : (-1074 : Int) + (((1074 + L - 52) * 4503599627370496 + K) / 4503599627370496 - 1 : Nat) = (L : Int) - 52 := by omega
  rw [n2, n3]
theorem read_W0 (neg : Bool) : double.read (W neg 0) = .number neg 0 (-1074) := by
  cases neg <;> decide
/-- A whole number's double; a zero may have either sign. -/
def Fl (b : Nat) (x : Int) : Prop := x.natAbs < 9007199254740992 ∧ ∃ s : Bool, b = W s x.natAbs ∧ (x ≠ 0 → s = decide (x < 0))
theorem Fl.mk {x : Int} (s : Bool) (h : x.natAbs < 9007199254740992) (hs : x ≠ 0 → s = decide (x < 0)) : Fl (W s x.natAbs) x := ⟨h, s, rfl, hs⟩
theorem Fl.read {b : Nat} {x : Int} (h : Fl b x) : ∃ (s : Bool) (k : Nat), double.read b = .number s (x.natAbs * 2 ^ k) (-(k : Int)) ∧ (x ≠ 0 → s = decide (x < 0)) := by
  obtain ⟨hx, s, rfl, hs⟩ := h
  by_cases h0 : x = 0
  · subst h0
    obtain ⟨k, hk⟩ : ∃ k : Nat, k = 1074 := ⟨_, rfl⟩
    exact ⟨s, k, by rw [show (0 : Int).natAbs = 0 from rfl, read_W0, Nat.zero_mul, hk]; rfl, hs⟩
  · have ha : x.natAbs ≠ 0 := by omega
    have hl := log2_53 ha hx
    refine ⟨s, 52 - x.natAbs.log2, ?_, hs⟩
    rw [read_W s _ ha hx]
    congr 1
    omega
theorem write_Fl {s : Bool} {x : Int} (k : Nat) (h : x.natAbs < 9007199254740992) (hs : x ≠ 0 → s = decide (x < 0)) : Fl (double.write (.number s (x.natAbs * 2 ^ k) (-(k : Int)))) x := by
  show Fl (double.nearest s (x.natAbs * 2 ^ k) (-(k : Int))) x
  by_cases h0 : x = 0
  · subst h0
    have e : (0 : Int).natAbs * 2 ^ k = 0 := by simp
    rw [e, nearest_zero]
    exact Fl.mk (x := 0) s (by decide) hs
  · rw [nearest_W s x.natAbs k (by omega) h]
    exact Fl.mk s h hs
theorem signed_eq {s : Bool} {x : Int} (k j : Nat) (hs : x ≠ 0 → s = decide (x < 0)) : signed s (x.natAbs * 2 ^ k) j = x * 2 ^ (k + j) := by
  unfold signed
  rw [Nat.shiftLeft_eq, Nat.mul_assoc, ← Nat.pow_add]
  by_cases h0 : x = 0
  · subst h0; simp
  · rw [hs h0]
    by_cases hx : x < 0
    · rw [if_pos (by simpa using hx)]
      have : ((x.natAbs : Nat) : Int) = -x := by omega
      rw [Int.natCast_mul, this, Int.natCast_pow, Int.neg_mul, Int.neg_neg]
      rfl
    · rw [if_neg (by simpa using hx)]
      have : ((x.natAbs : Nat) : Int) = x := by omega
      rw [Int.natCast_mul, this, Int.natCast_pow]
      rfl
theorem add_Fl {a b : Nat} {x y : Int} (ha : Fl a x) (hb : Fl b y) (h : (x + y).natAbs < 9007199254740992) : ∃ c, double.add a b = some c ∧ Fl c (x + y) := by
  obtain ⟨s, k, hr, hs⟩ := ha.read
  obtain ⟨t, l, hr2, ht⟩ := hb.read
  unfold Format.add
  rw [hr, hr2]
  unfold Datum.sum
  refine ⟨_, rfl, ?_⟩
  obtain ⟨m, hm⟩ : ∃ m, max k l = m := ⟨_, rfl⟩
  have hbase : min (-(k : Int)) (-(l : Int)) = -(m : Int) := by omega
  simp only [hbase]
  rw [signed_eq k _ hs, signed_eq l _ ht, show k + (-(k : Int) - -(m : Int)).toNat = m by omega, show l + (-(l : Int) - -(m : Int)).toNat = m by omega, ← Int.add_mul]
  have hp : (0 : Int) < 2 ^ m := Int.pow_pos (by decide)
  have hz : (x + y) * 2 ^ m = 0 ↔ x + y = 0 := by
    constructor
    · intro h; rcases Int.mul_eq_zero.1 h with h | h; exact h; omega
    · intro h; rw [h]; simp
  have hneg : (x + y) * 2 ^ m < 0 ↔ x + y < 0 := by
    constructor
    · intro h
      rcases Int.lt_or_le (x + y) 0 with h' | h'
      · exact h'
      · have := Int.mul_nonneg h' (Int.le_of_lt hp); omega
    · intro h; exact Int.mul_neg_of_neg_of_pos h hp
  have habs : ((x + y) * 2 ^ m).natAbs = (x + y).natAbs * 2 ^ m := by rw [Int.natAbs_mul, Int.natAbs_pow]; rfl
  rw [habs]
  refine write_Fl m h fun hne => ?_
  rw [if_neg (fun h => hne (hz.1 h))]
  exact decide_eq_decide.2 hneg
theorem sub_Fl {a b : Nat} {x y : Int} (ha : Fl a x) (hb : Fl b y) (h : (x - y).natAbs < 9007199254740992) : ∃ c, double.sub a b = some c ∧ Fl c (x - y) := by
  obtain ⟨s, k, hr, hs⟩ := ha.read
  obtain ⟨t, l, hr2, ht⟩ := hb.read
  unfold Format.sub
  rw [hr, hr2]
  unfold Datum.opposite Datum.sum
  refine ⟨_, rfl, ?_⟩
  obtain ⟨m, hm⟩ : ∃ m, max k l = m := ⟨_, rfl⟩
  have hbase : min (-(k : Int)) (-(l : Int)) = -(m : Int) := by omega
  have ht' : -y ≠ 0 → (!t) = decide (-y < 0) := fun hy => by
    rw [ht (by omega)]
    by_cases h1 : y < 0
    · simp [h1]; omega
    · simp [h1]; omega
  have en : y.natAbs = (-y).natAbs := by omega
  simp only [hbase]
  rw [en, signed_eq k _ hs, signed_eq l _ ht', show k + (-(k : Int) - -(m : Int)).toNat = m by omega, show l + (-(l : Int) - -(m : Int)).toNat = m by omega, ← Int.add_mul, show x + -y = x - y by omega]
  have hp : (0 : Int) < 2 ^ m := Int.pow_pos (by decide)
  have hz : (x - y) * 2 ^ m = 0 ↔ x - y = 0 := by
    constructor
    · intro h; rcases Int.mul_eq_zero.1 h with h | h; exact h; omega
    · intro h; rw [h]; simp
  have hneg : (x - y) * 2 ^ m < 0 ↔ x - y < 0 := by
    constructor
    · intro h
      rcases Int.lt_or_le (x - y) 0 with h' | h'
      · exact h'
      · have := Int.mul_nonneg h' (Int.le_of_lt hp); omega
    · intro h; exact Int.mul_neg_of_neg_of_pos h hp
  have habs : ((x - y) * 2 ^ m).natAbs = (x - y).natAbs * 2 ^ m := by rw [Int.natAbs_mul, Int.natAbs_pow]; rfl
  rw [habs]
  refine write_Fl m h fun hne => ?_
  rw [if_neg (fun h => hne (hz.1 h))]
  exact decide_eq_decide.2 hneg
theorem mul_Fl {a b : Nat} {x y : Int} (ha : Fl a x) (hb : Fl b y) (h : (x * y).natAbs < 9007199254740992) : ∃ c, double.mul a b = some c ∧ Fl c (x * y) := by
  obtain ⟨s, k, hr, hs⟩ := ha.read
  obtain ⟨t, l, hr2, ht⟩ := hb.read
  unfold Format.mul
  rw [hr, hr2]
  unfold Datum.product
  refine ⟨_, rfl, ?_⟩
  have e1 : x.natAbs * 2 ^ k * (y.natAbs * 2 ^ l) = (x * y).natAbs * 2 ^ (k + l) := by
    rw [Int.natAbs_mul, Nat.pow_add]
    simp only [Nat.mul_assoc, Nat.mul_left_comm]
  have e2 : -(k : Int) + -(l : Int) = -((k + l : Nat) : Int) := by omega
  rw [e1, e2]
  refine write_Fl (k + l) h fun hne => ?_
  have hx : x ≠ 0 := fun h => hne (by rw [h]; simp)
  have hy : y ≠ 0 := fun h => hne (by rw [h]; simp)
  rw [hs hx, ht hy]
  by_cases h1 : x < 0 <;> by_cases h2 : y < 0
  · have := Int.mul_pos_of_neg_of_neg h1 h2
    simp [h1, h2]; omega
  · have := Int.mul_neg_of_neg_of_pos h1 (show 0 < y by omega)
    simp [h1, h2]; omega
  · have := Int.mul_neg_of_pos_of_neg (show 0 < x by omega) h2
    simp [h1, h2]; omega
  · have := Int.mul_pos (show 0 < x by omega) (show 0 < y by omega)
    simp [h1, h2]; omega
theorem order_Fl {a b : Nat} {x y : Int} (ha : Fl a x) (hb : Fl b y) : double.order a b = some (compare x y) := by
  obtain ⟨s, k, hr, hs⟩ := ha.read
  obtain ⟨t, l, hr2, ht⟩ := hb.read
  unfold Format.order
  rw [hr, hr2]
  unfold Datum.order
  obtain ⟨m, hm⟩ : ∃ m, max k l = m := ⟨_, rfl⟩
  have hbase : min (-(k : Int)) (-(l : Int)) = -(m : Int) := by omega
  simp only [hbase]
  rw [signed_eq k _ hs, signed_eq l _ ht, show k + (-(k : Int) - -(m : Int)).toNat = m by omega, show l + (-(l : Int) - -(m : Int)).toNat = m by omega]
  have hp : (0 : Int) < 2 ^ m := Int.pow_pos (by decide)
  congr 1
  have h1 : x * 2 ^ m < y * 2 ^ m ↔ x < y := Int.mul_lt_mul_right hp
  have h2 : x * 2 ^ m = y * 2 ^ m ↔ x = y := ⟨fun h => Int.eq_of_mul_eq_mul_right (by omega) h, fun h => by rw [h]⟩
  show compareOfLessAndEq _ _ = compareOfLessAndEq _ _
  unfold compareOfLessAndEq
  simp only [h1, h2]
theorem ofInt_Fl {n : Int} (h : n.natAbs < 9007199254740992) : Fl (Go.FloatKind.f64.nearest n) n := by
  have := write_Fl (s := decide (n < 0)) (x := n) 0 h (fun _ => rfl)
  rw [Nat.pow_zero, Nat.mul_one] at this
  exact this
theorem toInt_Fl {b : Nat} {x : Int} (h : Fl b x) : (double.read b).toInt .zero = some x := by
  obtain ⟨s, k, hr, hs⟩ := h.read
  rw [hr]
  unfold Datum.toInt Datum.integral
  simp only
  have e1 : (-(k : Int)).toNat = 0 := by omega
  have e2 : (-(-(k : Int))).toNat = k := by omega
  rw [e1, e2, Nat.shiftLeft_zero]
  have e3 : Toward.zero.cut s (x.natAbs * 2 ^ k) k = x.natAbs := by
    by_cases h0 : x.natAbs = 0
    · rw [h0]; unfold Toward.cut; simp
    · have hlog : k ≤ (x.natAbs * 2 ^ k).log2 + 2 := by rw [log2_mul _ _ h0]; omega
      unfold Toward.cut
      rw [Nat.min_eq_left hlog, Nat.one_shiftLeft]
      simp [Nat.mul_div_cancel _ (Nat.two_pow_pos k)]
  rw [e3]
  have := signed_eq (s := s) (x := x) 0 0 hs
  simpa using this
/-- A quarter of what four divides. -/
theorem div4_Fl {a b : Nat} {z : Int} (ha : Fl a (4 * z)) (hb : Fl b 4) : ∃ c, double.div a b = some c ∧ Fl c z := by
  have hlt := ha.1
  obtain ⟨s, k, hr, hs⟩ := ha.read
  obtain ⟨t, l, hr2, ht⟩ := hb.read
  have hz : z.natAbs < 9007199254740992 := by omega
  have h4 : (4 : Int).natAbs = 4 := rfl
  rw [h4] at hr2
  have hn0 : 4 * 2 ^ l ≠ 0 := by have := Nat.two_pow_pos l; omega
  obtain rfl : t = false := by rw [ht (by decide)]; rfl
  unfold Format.div
  rw [hr, hr2]
  unfold Datum.quotient
  simp only [if_neg hn0]
  refine ⟨_, rfl, ?_⟩
  by_cases h0 : z = 0
  · subst h0
    have e : (4 * (0 : Int)).natAbs * 2 ^ k = 0 := by simp
    rw [e]
    simp only [Nat.zero_shiftLeft, Nat.zero_div, Nat.zero_mod]
    show Fl (double.nearest _ 0 _) 0
    rw [nearest_zero]
    exact Fl.mk (x := 0) _ (by decide) (fun h => absurd rfl h)
  · have hx0 : (4 * z).natAbs ≠ 0 := by omega
    have hlog := log2_53 hx0 hlt
    have l1 := log2_mul (4 * z).natAbs k hx0
    have l2 : (4 * 2 ^ l).log2 = 2 + l := by rw [log2_mul 4 l (by decide)]; rfl
    have hfb : double.fractionBits + 2 = 54 := rfl
    rw [l1, l2, hfb]
    obtain ⟨more, hmore⟩ : ∃ more, 54 + (2 + l) - ((4 * z).natAbs.log2 + k) = more := ⟨_, rfl⟩
    rw [hmore]
    obtain ⟨e, he⟩ : ∃ e, k + more = 2 + l + e := ⟨k + more - (2 + l), by omega⟩
    have hdv : ((4 * z).natAbs * 2 ^ k) <<< more = (z.natAbs * 2 ^ (2 + e)) * (4 * 2 ^ l) := by
      rw [Nat.shiftLeft_eq, Nat.mul_assoc, ← Nat.pow_add, he, Int.natAbs_mul, h4, show 2 + l + e = (2 + e) + l by omega, Nat.pow_add]
      simp only [Nat.mul_assoc, Nat.mul_comm, Nat.mul_left_comm]
    rw [hdv, Nat.mul_div_cancel _ (Nat.pos_of_ne_zero hn0), Nat.mul_mod_left]
    have e2 : 2 * (z.natAbs * 2 ^ (2 + e)) + ((0 : Nat) != 0).toNat = z.natAbs * 2 ^ (3 + e) := by
      rw [show 3 + e = (2 + e) + 1 by omega, Nat.pow_succ]
      simp
      simp only [Nat.mul_comm, Nat.mul_left_comm]
    have e3 : -(k : Int) - -(l : Int) - (more : Int) - 1 = -((3 + e : Nat) : Int) := by omega
    rw [e2, e3]
    refine write_Fl (3 + e) hz fun hne => ?_
    have : 4 * z ≠ 0 := by omega
    rw [hs this]
    by_cases h1 : z < 0
    · simp [h1]; omega
    · simp [h1]; omega
/-- Sums and products of complex numbers of whole parts. -/
theorem csum_Fl {a b c d : Nat} {x y u v : Int} (ha : Fl a x) (hb : Fl b y) (hc : Fl c u) (hd : Fl d v) (h1 : (x + u).natAbs < 9007199254740992) (h2 : (y + v).natAbs < 9007199254740992) :
    ∃ re im, Go.cSumBits .add .f64 a b c d = some (re, im) ∧ Fl re (x + u) ∧ Fl im (y + v) := by
  obtain ⟨re, e1, f1⟩ := add_Fl ha hc h1
  obtain ⟨im, e2, f2⟩ := add_Fl hb hd h2
  refine ⟨re, im, ?_, f1, f2⟩
  have g1 : Go.floatBits .add .f64 a c = some re := e1
  have g2 : Go.floatBits .add .f64 b d = some im := e2
  unfold Go.cSumBits
  rw [g1, g2]
  rfl
theorem cmul_Fl {a b c d : Nat} {x y u v : Int} (ha : Fl a x) (hb : Fl b y) (hc : Fl c u) (hd : Fl d v) (k1 : (x * u).natAbs < 9007199254740992) (k2 : (y * v).natAbs < 9007199254740992) (k3 : (x * v).natAbs < 9007199254740992) (k4 : (y * u).natAbs < 9007199254740992)
    (h1 : (x * u - y * v).natAbs < 9007199254740992) (h2 : (x * v + y * u).natAbs < 9007199254740992) :
    ∃ re im, Go.cMulBits a b c d = some (re, im) ∧ Fl re (x * u - y * v) ∧ Fl im (x * v + y * u) := by
  obtain ⟨ac, e1, f1⟩ := mul_Fl ha hc k1
  obtain ⟨bd, e2, f2⟩ := mul_Fl hb hd k2
  obtain ⟨re, e3, f3⟩ := sub_Fl f1 f2 h1
  obtain ⟨ad, e4, f4⟩ := mul_Fl ha hd k3
  obtain ⟨bc, e5, f5⟩ := mul_Fl hb hc k4
  obtain ⟨im, e6, f6⟩ := add_Fl f4 f5 h2
  refine ⟨re, im, ?_, f3, f6⟩
  have g1 : Go.floatBits .mul .f64 a c = some ac := e1
  have g2 : Go.floatBits .mul .f64 b d = some bd := e2
  have g3 : Go.floatBits .sub .f64 ac bd = some re := e3
  have g4 : Go.floatBits .mul .f64 a d = some ad := e4
  have g5 : Go.floatBits .mul .f64 b c = some bc := e5
  have g6 : Go.floatBits .add .f64 ad bc = some im := e6
  unfold Go.cMulBits
  rw [g1, g2, g4, g5]
  simp only [Option.bind_some]
  rw [g3, g6]
  rfl
end Tone
