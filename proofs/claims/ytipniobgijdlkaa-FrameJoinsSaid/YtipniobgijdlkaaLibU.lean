/- Slices of uint64: what a slice's value reads. Over any program. -/
import Derived.Test.YtipniobgijdlkaaLibS
namespace Go.Rw
open Go Go.RowKit
/-- An element; 0 beyond the end. -/
def nu (l : List Nat) (i : Nat) : Nat := l[i]?.getD 0
/-- A slice's value reads a list of uint64. -/
def Su (w : World) (v : Value) (l : List Nat) : Prop :=
  ∃ ao cap, v = .slice ao l.length cap ∧ (∀ k, k < l.length → nu l k < 18446744073709551616) ∧ (0 < l.length → ∃ b off, ao = some ⟨b, off, none⟩ ∧ ∀ k, k < l.length → w.cell? ⟨b, off + k, none⟩ = some (.int .u64 (nu l k : Nat)))
theorem Su.nil (w : World) : Su w (.slice none 0 0) [] := ⟨none, 0, rfl, fun k h => by simp at h, fun h => by simp at h⟩
theorem Su.below {w w' : World} {v : Value} {l : List Nat} (h : Su w v l) (hb : Below w.heap.size w w') : Su w' v l := by
  obtain ⟨ao, cap, rfl, hn, hp⟩ := h
  refine ⟨ao, cap, rfl, hn, fun h0 => ?_⟩
  obtain ⟨b, off, rfl, hc⟩ := hp h0
  exact ⟨b, off, rfl, fun k hk => below_cell hb (hc k hk) (cell_lt (hc k hk))⟩
end Go.Rw
