/- The ranges of FrameAcks, in plain words: told by gaps and lengths they may be an Ack's; with the last end above the first they may not, if there are two. No program. -/
import Derived.Test.YtipniobgijdlkaaMgj8
namespace Frm
open Go Go.Rw Hdr
/-- The greatest number of the k-th range. -/
def aHi (g : List UInt8) (t : Nat) : Nat → Nat
  | 0 => t
  | k + 1 => aHi g t k - n8 (nth g (2 * k)) - 2 - n8 (nth g (2 * k + 1))
def aRs (g : List UInt8) (t k : Nat) : List (Nat × Nat) := (List.range k).map fun j => (aHi g t j - n8 (nth g (2 * j)), aHi g t j)
theorem aRs_length (g : List UInt8) (t k : Nat) : (aRs g t k).length = k := by simp [aRs]
theorem aRs_succ (g : List UInt8) (t k : Nat) : aRs g t (k + 1) = aRs g t k ++ [(aHi g t k - n8 (nth g (2 * k)), aHi g t k)] := by simp [aRs, List.range_succ]
theorem aRs_get (g : List UInt8) (t k j : Nat) (h : j < k) : (aRs g t k).getD j (0, 0) = (aHi g t j - n8 (nth g (2 * j)), aHi g t j) := by
  rw [List.getD, List.getElem?_eq_getElem (by rw [aRs_length]; exact h), Option.getD_some]
  simp [aRs]
theorem aHi_ge (g : List UInt8) (t : Nat) (h : 10000 ≤ t) : ∀ k, k ≤ 8 → t ≤ aHi g t k + 512 * k := by
  intro k
  induction k with
  | zero => intro _; simp [aHi]
  | succ k ih =>
    intro hk
    have := ih (by omega)
    have h1 := n8_lt (nth g (2 * k))
    have h2 := n8_lt (nth g (2 * k + 1))
    simp only [aHi]
    omega
theorem aHi_le (g : List UInt8) (t : Nat) : ∀ k, aHi g t k ≤ t := by
  intro k
  induction k with
  | zero => simp [aHi]
  | succ k ih => simp only [aHi]; omega
theorem aRs_rOk (g : List UInt8) (t k : Nat) (h : 10000 ≤ t) (ht : t ≤ 4611686018427387903) (hk : k ≤ 8) (i : Nat) (hi : i < k) : rOk (aRs g t k) i = true := by
  have hg := aRs_get g t k i hi
  have h1 := aHi_ge g t h i (by omega)
  have h2 := aHi_le g t i
  have h3 := n8_lt (nth g (2 * i))
  unfold rOk
  rw [hg]
  simp only [Bool.and_eq_true, decide_eq_true_eq, Bool.or_eq_true]
  refine ⟨⟨by omega, by omega⟩, ?_⟩
  cases i with
  | zero => exact .inl rfl
  | succ i =>
    refine .inr ?_
    rw [Nat.add_sub_cancel, aRs_get g t k i (by omega)]
    have h4 := aHi_ge g t h i (by omega)
    have h5 := n8_lt (nth g (2 * i))
    have h6 := n8_lt (nth g (2 * i + 1))
    simp only [aHi]
    constructor <;> omega
theorem aRs_ok (g : List UInt8) (t k : Nat) (h : 10000 ≤ t) (ht : t ≤ 4611686018427387903) (h1 : 1 ≤ k) (hk : k ≤ 8) : rsOk (aRs g t k) = true := by
  unfold rsOk rsAll
  rw [aRs_length]
  simp only [Bool.and_eq_true, decide_eq_true_eq, List.all_eq_true, List.mem_range]
  exact ⟨⟨h1, hk⟩, fun i hi => aRs_rOk g t k h ht hk i hi⟩
/-- The last end turned to one above the first. -/
def aTurn (g : List UInt8) (t k : Nat) : List (Nat × Nat) := (aRs g t k).set (k - 1) (aHi g t (k - 1) - n8 (nth g (2 * (k - 1))), t + 1)
theorem aTurn_length (g : List UInt8) (t k : Nat) : (aTurn g t k).length = k := by simp [aTurn, aRs_length]
theorem aTurn_one (g : List UInt8) (t : Nat) (h : 10000 ≤ t) (ht : t < 4611686018427387903) : rsOk (aTurn g t 1) = true := by
  have h3 := n8_lt (nth g 0)
  simp [aTurn, aRs, aHi, rsOk, rsAll, rOk]
  omega
theorem aTurn_more (g : List UInt8) (t k : Nat) (hk : 2 ≤ k) : rsOk (aTurn g t k) = false := by
  unfold rsOk rsAll
  rw [aTurn_length]
  refine (Bool.and_eq_false_iff).2 (.inr ?_)
  rw [List.all_eq_false]
  refine ⟨k - 1, by simp; omega, ?_⟩
  have e1 : (aTurn g t k).getD (k - 1) (0, 0) = (aHi g t (k - 1) - n8 (nth g (2 * (k - 1))), t + 1) := by
    unfold aTurn
    rw [List.getD, List.getElem?_set_self (by rw [aRs_length]; omega)]
    rfl
  have e2 : (aTurn g t k).getD (k - 1 - 1) (0, 0) = (aHi g t (k - 2) - n8 (nth g (2 * (k - 2))), aHi g t (k - 2)) := by
    unfold aTurn
    rw [List.getD, List.getElem?_set_ne (by omega), ← List.getD, show k - 1 - 1 = k - 2 by omega, aRs_get g t k (k - 2) (by omega)]
  have := aHi_le g t (k - 2)
  unfold rOk
  rw [e1, e2]
  simp only [Bool.and_eq_true, decide_eq_true_eq, Bool.or_eq_true]
  omega
def frK (d : Nat) (rs : List (Nat × Nat)) : Fr := ⟨2, 0, d, rs, 0, 0, false, [], [], []⟩
theorem frK_may (d : Nat) (rs : List (Nat × Nat)) (hd : d ≤ 4611686018427387903) : (frK d rs).may = rsOk rs := by
  unfold Fr.may frK mayB
  rw [if_neg (by simp), if_neg (by simp), if_pos rfl]
  simp [plainB, hd]
theorem fits_K (d : Nat) (rs : List (Nat × Nat)) (h : rs.length ≤ 8) : (frK d rs).fits := by unfold Fr.fits frK; simp; omega
/-- Laid it is read as it was. -/
theorem frK_get (d : Nat) (rs : List (Nat × Nat)) (hd : d ≤ 4611686018427387903) (ho : rsOk rs = true) : fget (frK d rs).laid = (frK d rs, (frK d rs).laid.length, 0) := by
  have hm : (frK d rs).may = true := by rw [frK_may d rs hd]; exact ho
  have hg := fget_put (frK d rs) hm (by simp [frK]) []
  rw [List.append_nil] at hg
  unfold Fr.laid
  rw [if_pos hm]
  exact hg
end Frm
