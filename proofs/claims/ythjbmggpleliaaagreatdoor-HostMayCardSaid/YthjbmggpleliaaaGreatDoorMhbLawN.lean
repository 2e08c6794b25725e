/- What a law's arguments of numbers and of truth are. Over any program. -/
import Derived.Test.YthjbmggpleliaaaGreatDoorMhb23
namespace Go.Law
open Go Go.RowKit Go.Rw
section
variable {P : Program}
theorem open_bool {w : World} {r : Reach} {base : Nat} {t : TypeId} {v : Value} (hu : P.underlying t = some .bool) (h : Value.okWide P w r base t v) : ∃ b : Bool, v = .bool b := by
 simp only [Value.okWide, hu, Cell.okWide, Cell.ok] at h
 cases v <;> simp at h
 rename_i b
 exact ⟨b, rfl⟩
end
end Go.Law
