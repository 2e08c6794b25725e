/- What the document's Lead tells is within bounds, in plain words. No condition. -/
import Derived.Test.YtgaheodnembjiaaHdrG2
import Derived.Test.YtgaheodnembjiaaHdrW11
namespace Hdr
open Go.Rw
theorem lTok_le {b : List UInt8} {k at2 at3 : Nat} {t : List UInt8} (h : lTok b k at2 = .ok (t, at3)) (h2 : at2 ≤ b.length) : at3 ≤ b.length := by
  unfold lTok at h
  split at h
  · injection h with h; injection h with _ h; omega
  · split at h
    · cases h
    · split at h
      · cases h
      · split at h
        · cases h
        · injection h with h; injection h with _ h; omega
theorem lTail_le {b : List UInt8} {h0 h : Hd} {at3 at_ told : Nat} (e : lTail b h0 at3 = .ok (h, at_, told)) (h3 : at3 ≤ b.length) : h = h0 ∧ at_ ≤ b.length ∧ told ≤ 1073741824 := by
  unfold lTail at e
  split at e
  · cases e
  · injection e with e
    injection e with e1 e2
    injection e2 with e2 e3
    have := vget_many (b.drop at3)
    rw [List.length_drop] at this
    exact ⟨e1.symm, by omega, by omega⟩
theorem lead_ok {b : List UInt8} {h : Hd} {at_ told : Nat} (e : lead b false = .ok (h, at_, told)) :
    (∃ nl : Nat, h.nl = nl ∧ 1 ≤ nl ∧ nl ≤ 4) ∧ at_ ≤ b.length ∧ told ≤ 1073741824 + b.length ∧ (h.long = false → told = b.length - at_) := by
  have h3 := and3_lt (nth b 0)
  unfold lead at e
  split at e
  · cases e
  split at e
  · cases e
  split at e
  · split at e
    · cases e
    split at e
    · cases e
    injection e with e
    injection e with e1 e2
    injection e2 with e2 e4
    subst e1
    exact ⟨⟨n8 (nth b 0 &&& 3) + 1, rfl, by omega, by omega⟩, by omega, by omega, fun _ => by omega⟩
  split at e
  · cases e
  split at e
  · cases e
  split at e
  · cases e
  rename_i d at1 hp1
  split at e
  · cases e
  rename_i s at2 hp2
  split at e
  · cases e
  rename_i t at3 hp3
  have l2 := lPart_le hp2
  have l3 := lTok_le hp3 l2
  obtain ⟨e1, e2, e3⟩ := lTail_le e l3
  subst e1
  exact ⟨⟨n8 (nth b 0 &&& 3) + 1, rfl, by omega, by omega⟩, e2, by omega, fun h => by cases h⟩
end Hdr
