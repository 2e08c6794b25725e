/- What a law's arguments of numbers and of truth are. Over any program. -/
import Derived.Test.YtjlpppnpdgenfaaMvb19
namespace Go.Law
open Go Go.RowKit Go.Rw
section
variable {P : Program}
theorem open_u64 {w : World} {r : Reach} {base : Nat} {t : TypeId} {v : Value} (hu : P.underlying t = some (.int .u64)) (h : Value.okWide P w r base t v) : ∃ x : Nat, v = .int .u64 (x : Nat) ∧ x < 18446744073709551616 := by
 simp only [Value.okWide, hu, Cell.okWide, Cell.ok] at h
 cases v <;> simp at h
 rename_i k x
 obtain ⟨rfl, hwf⟩ := h
 have hx : 0 ≤ x ∧ x ≤ 18446744073709551615 := by simpa [IntKind.has, IntKind.min, IntKind.max, IntKind.signed, IntKind.bits] using hwf
 exact ⟨x.toNat, by rw [Int.toNat_of_nonneg hx.1], by omega⟩
theorem open_u32 {w : World} {r : Reach} {base : Nat} {t : TypeId} {v : Value} (hu : P.underlying t = some (.int .u32)) (h : Value.okWide P w r base t v) : ∃ x : Nat, v = .int .u32 (x : Nat) ∧ x < 4294967296 := by
 simp only [Value.okWide, hu, Cell.okWide, Cell.ok] at h
 cases v <;> simp at h
 rename_i k x
 obtain ⟨rfl, hwf⟩ := h
 have hx : 0 ≤ x ∧ x ≤ 4294967295 := by simpa [IntKind.has, IntKind.min, IntKind.max, IntKind.signed, IntKind.bits] using hwf
 exact ⟨x.toNat, by rw [Int.toNat_of_nonneg hx.1], by omega⟩
theorem open_bool {w : World} {r : Reach} {base : Nat} {t : TypeId} {v : Value} (hu : P.underlying t = some .bool) (h : Value.okWide P w r base t v) : ∃ b : Bool, v = .bool b := by
 simp only [Value.okWide, hu, Cell.okWide, Cell.ok] at h
 cases v <;> simp at h
 rename_i b
 exact ⟨b, rfl⟩
end
end Go.Law
