/- Slices of ints: what a slice's value reads; rows of ints. Over any program. -/
import Derived.Test.YthjbmggpleliaaaGreatDoorMhb1
namespace Go.Rw
open Go Go.RowKit
variable {P : Program}
def ni (l : List Int) (i : Nat) : Int := l[i]?.getD 0
def iv (x : Int) : Value := .int .i64 x
def ivs (l : List Int) : Array Value := (l.map iv).toArray
@[go_sem] theorem ivs_size (l : List Int) : (ivs l).size = l.length := by simp [ivs]
theorem oneCell_iv (x : Int) : (iv x).oneCell' = true := rfl
@[go_sem] theorem ivs_all (l : List Int) : allOne (ivs l) = true := by
 simp [allOne, ivs, oneCell_iv]
theorem ivs_getElem? (l : List Int) (k : Nat) : (ivs l)[k]? = if k < l.length then some (.int .i64 (ni l k)) else none := by
 by_cases h : k < l.length
 ·rw [if_pos h]; simp [ni, ivs, iv, h]
 ·rw [if_neg h]; simp [ivs]; omega
def Si (w : World) (v : Value) (l : List Int) : Prop :=
 ∃ ao cap, v = .slice ao l.length cap ∧ l.length ≤ cap ∧ (ao = none → cap = 0) ∧ (0 < l.length → ∃ b off, ao = some ⟨b, off, none⟩ ∧ ∀ k, k < l.length → w.cell? ⟨b, off + k, none⟩ = some (.int .i64 (ni l k)))
theorem Si.nil (w : World) : Si w (.slice none 0 0) [] := ⟨none, 0, rfl, Nat.le_refl _, fun _ => rfl, fun h => by simp at h⟩
theorem Si.below {w w' : World} {v : Value} {l : List Int} (h : Si w v l) (hb : Below w.heap.size w w') : Si w' v l := by
 obtain ⟨ao, cap, rfl, hc, hn, hp⟩ := h
 refine ⟨ao, cap, rfl, hc, hn, fun h0 => ?_⟩
 obtain ⟨b, off, rfl, hcell⟩ := hp h0
 exact ⟨b, off, rfl, fun k hk => by rw [← hcell k hk]; exact World.cell?_of_block (hb.block b (cell_lt (hcell k hk)))⟩
theorem Si.keep {w w' : World} {v : Value} {l : List Int} {B : Nat} (h : Si w v l) (hB : ∀ b off n cap, v = .slice (some ⟨b, off, none⟩) n cap → 0 < n → b < B) (hb : Below B w w') : Si w' v l := by
 obtain ⟨ao, cap, rfl, hc, hn, hp⟩ := h
 refine ⟨ao, cap, rfl, hc, hn, fun h0 => ?_⟩
 obtain ⟨b, off, rfl, hcell⟩ := hp h0
 exact ⟨b, off, rfl, fun k hk => by rw [← hcell k hk]; exact World.cell?_of_block (hb.block b (hB b off _ _ rfl h0))⟩
theorem Si.row {w : World} {g : Nat} {l : List Int} (h : row? w g = some (ivs l)) : Si w (.slice (some ⟨g, 0, none⟩) l.length l.length) l :=
 ⟨_, _, rfl, Nat.le_refl _, fun h => (by cases h), fun _ => ⟨g, 0, rfl, fun k hk => by rw [row?_cell h, ivs_getElem?, Nat.zero_add, if_pos hk]⟩⟩
theorem Own.si {w : World} {B : Nat} {e : TypeId} {v : Value} {l : List Int} (h : w.ownsRow B e 1 v l.length (l.map iv)) : Si w v l := by
 rcases h.2 with ⟨rfl, h0⟩ | ⟨g, cap, cur, rfl, hb, hg, hnc, hcm, hcs, htake⟩
 ·obtain rfl : l = [] := List.eq_nil_of_length_eq_zero h0
  exact Si.nil w
 ·refine ⟨_, cap, rfl, hnc, fun h => (by cases h), fun _ => ⟨g, 0, rfl, fun k hk => ?_⟩⟩
  rw [World.ownsRow.cellAt h (0 + k) (by omega)]
  simp [ni, hk, iv]
end Go.Rw
