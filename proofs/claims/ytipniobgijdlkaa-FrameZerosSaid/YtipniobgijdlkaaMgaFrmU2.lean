/- Frames one behind the other, and zeros, in plain words: All reads them as they were. No program. -/
import Derived.Test.YtipniobgijdlkaaMgaFrmU
import Derived.Test.YtipniobgijdlkaaMgaFrmL
namespace Frm
open Go Go.Rw Hdr
theorem fallGo_succ (k : Nat) (b : List UInt8) (out : List Fr) : fallGo (k + 1) b out = if b.length = 0 then (if out.length = 0 then ([], 5) else (out, 0)) else if (if out.length = 64 then 4 else (fget b).2.2) ≠ 0 then ([], if out.length = 64 then 4 else (fget b).2.2) else fallGo k (b.drop (fget b).2.1) (out ++ [(fget b).1]) := rfl
theorem fallGo_more : ∀ (k : Nat) (b : List UInt8) (out : List Fr), b.length ≤ k → fallGo (k + 1) b out = fallGo k b out := by
  intro k
  induction k with
  | zero =>
    intro b out h
    obtain rfl : b = [] := List.eq_nil_of_length_eq_zero (by omega)
    simp [fallGo]
  | succ k ih =>
    intro b out h
    rw [fallGo_succ (k + 1), fallGo_succ k b out]
    by_cases h0 : b.length = 0
    · rw [if_pos h0, if_pos h0]
    rw [if_neg h0, if_neg h0]
    by_cases h1 : (if out.length = 64 then 4 else (fget b).2.2) ≠ 0
    · rw [if_pos h1, if_pos h1]
    rw [if_neg h1, if_neg h1]
    have he : (fget b).2.2 = 0 := by
      by_cases h4 : out.length = 64
      · rw [if_pos h4] at h1; exact absurd (by decide) h1
      · rw [if_neg h4] at h1; exact Classical.not_not.1 h1
    have hm := fget_many (by omega) he
    exact ih _ _ (by rw [List.length_drop]; omega)
/-- With as much fuel as bytes. -/
def fallR (b : List UInt8) (out : List Fr) : List Fr × Int := fallGo b.length b out
theorem fallGo_fuel (b : List UInt8) (out : List Fr) : ∀ k, b.length ≤ k → fallGo k b out = fallR b out := by
  intro k
  induction k with
  | zero => intro h; unfold fallR; rw [show b.length = 0 by omega]
  | succ k ih =>
    intro h
    by_cases hk : b.length ≤ k
    · rw [fallGo_more k b out hk, ih hk]
    · unfold fallR; rw [show b.length = k + 1 by omega]
theorem fallR_nil (out : List Fr) (h : out.length ≠ 0) : fallR [] out = (out, 0) := by unfold fallR; simp [fallGo]; intro he; subst he; simp at h
theorem fallR_step {b : List UInt8} {out : List Fr} {f : Fr} {m : Nat} (hb : b.length ≠ 0) (ho : out.length < 64) (hg : fget b = (f, m, 0)) : fallR b out = fallR (b.drop m) (out ++ [f]) := by
  have hm := fget_many (b := b) (by omega) (by rw [hg])
  rw [hg] at hm
  simp only [] at hm
  obtain ⟨k, hk⟩ : ∃ k, b.length = k + 1 := ⟨b.length - 1, by omega⟩
  unfold fallR
  rw [hk, fallGo_succ, if_neg hb, if_neg (show ¬ out.length = 64 by omega), hg]
  simp only []
  rw [if_neg (by simp), fallGo_fuel _ _ k (by rw [List.length_drop]; omega)]
  rfl
/-- A frame that may be, no padding, ahead of any bytes. -/
theorem fallR_frame {f : Fr} {y : List UInt8} {out : List Fr} (hm : f.may = true) (hk : f.k ≠ 0) (ho : out.length < 64) : fallR (f.put ++ y) out = fallR y (out ++ [f]) := by
  have hg := fget_put f hm hk y
  have hl : f.put.length ≠ 0 := by
    intro h0
    have : f.put = [] := List.eq_nil_of_length_eq_zero h0
    unfold Fr.put at this
    rw [if_neg hk] at this
    repeat' split at this
    all_goals simp at this
  rw [fallR_step (by rw [List.length_append]; omega) ho hg, List.drop_left]
theorem zrun_rep (m : Nat) (y : List UInt8) (hy : ∀ c t, y = c :: t → c ≠ 0) : zrun (List.replicate m 0 ++ y) = min m 16384 := by
  unfold zrun
  by_cases h : m ≤ 16384
  · rw [List.take_append, List.takeWhile_append]
    have e1 : List.take 16384 (List.replicate m (0 : UInt8)) = List.replicate m 0 := by rw [List.take_of_length_le (by simp; omega)]
    have e2 : List.takeWhile (· == 0) (List.replicate m (0 : UInt8)) = List.replicate m 0 := by
      rw [List.takeWhile_replicate]; simp
    rw [e1, e2, if_pos rfl]
    have e3 : List.takeWhile (· == (0 : UInt8)) (y.take (16384 - (List.replicate m (0 : UInt8)).length)) = [] := by
      cases y with
      | nil => simp
      | cons c t =>
        have := hy c t rfl
        cases 16384 - (List.replicate m (0 : UInt8)).length with
        | zero => rfl
        | succ j => simp [this]
    rw [e3]
    simp; omega
  · rw [List.take_append_of_le_length (by simp; omega)]
    have e1 : List.take 16384 (List.replicate m (0 : UInt8)) = List.replicate 16384 0 := by rw [List.take_replicate]; congr 1; omega
    rw [e1, List.takeWhile_replicate, if_pos (by decide), List.length_replicate]; omega
def padF (m : Nat) : Fr := { fr0 with n := m }
set_option maxRecDepth 20000 in
theorem fget_zeros (m : Nat) (hm : 0 < m) (y : List UInt8) (hy : ∀ c t, y = c :: t → c ≠ 0) : fget (List.replicate m 0 ++ y) = (padF (min m 16384), min m 16384, 0) := by
  have hz := zrun_rep m y hy
  obtain ⟨k, rfl⟩ : ∃ k, m = k + 1 := ⟨m - 1, by omega⟩
  unfold fget
  rw [hz, if_neg (by simp), show nth (List.replicate (k + 1) 0 ++ y) 0 = 0 from rfl, if_neg (by decide), if_pos rfl]
  rfl
/-- The pieces of zeros. -/
def pads (m : Nat) : List Fr := (List.range ((m + 16383) / 16384)).map fun i => padF (min (m - i * 16384) 16384)
theorem pads_length (m : Nat) : (pads m).length = (m + 16383) / 16384 := by simp [pads]
theorem pads_cons (m : Nat) (hm : 0 < m) : pads m = padF (min m 16384) :: pads (m - 16384) := by
  unfold pads
  rw [show (m + 16383) / 16384 = (m - 16384 + 16383) / 16384 + 1 by omega, List.range_succ_eq_map, List.map_cons, List.map_map]
  simp only [Nat.zero_mul, Nat.sub_zero]
  refine congrArg (padF (min m 16384) :: ·) ?_
  apply List.map_congr_left
  intro i _
  simp only [Function.comp, Nat.succ_eq_add_one]
  rw [show m - (i + 1) * 16384 = m - 16384 - i * 16384 by omega]
set_option maxRecDepth 20000 in
theorem fallR_zeros : ∀ (k m : Nat) (y : List UInt8) (out : List Fr), m ≤ k → (∀ c t, y = c :: t → c ≠ 0) → out.length + (pads m).length < 64 → fallR (List.replicate m 0 ++ y) out = fallR y (out ++ pads m) := by
  intro k
  induction k with
  | zero =>
    intro m y out hm hy ho
    obtain rfl : m = 0 := by omega
    simp [pads]
  | succ k ih =>
    intro m y out hm hy ho
    by_cases h0 : m = 0
    · subst h0; simp [pads]
    have hc := pads_cons m (by omega)
    rw [hc, List.length_cons] at ho
    rw [fallR_step (by simp; omega) (by omega) (fget_zeros m (by omega) y hy)]
    have e : (List.replicate m (0 : UInt8) ++ y).drop (min m 16384) = List.replicate (m - 16384) 0 ++ y := by
      rw [List.drop_append_of_le_length (by simp; omega), List.drop_replicate, show m - min m 16384 = m - 16384 by omega]
    rw [e, ih (m - 16384) y (out ++ [padF (min m 16384)]) (by omega) hy (by rw [List.length_append, List.length_singleton]; omega), hc]
    simp
end Frm
