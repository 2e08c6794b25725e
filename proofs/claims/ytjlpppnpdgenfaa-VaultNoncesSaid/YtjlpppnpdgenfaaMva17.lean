/- HdrR2; HdrR3. -/
import Derived.Test.YtjlpppnpdgenfaaMva6
import Derived.Test.YtjlpppnpdgenfaaMvaHdrW11
import Derived.Test.YtjlpppnpdgenfaaMvaHdrR1
section
/- What the document's Lead tells is within bounds, in plain words. No condition. -/
namespace Hdr
open Go.Rw
theorem lTok_le {b : List UInt8} {k at2 at3 : Nat} {t : List UInt8} (h : lTok b k at2 = .ok (t, at3)) (h2 : at2 ≤ b.length) : at3 ≤ b.length := by
  unfold lTok at h
  split at h
  · injection h with h; injection h with _ h; omega
  · split at h
    · cases h
    · split at h
      · cases h
      · split at h
        · cases h
        · injection h with h; injection h with _ h; omega
theorem lTail_le {b : List UInt8} {h0 h : Hd} {at3 at_ told : Nat} (e : lTail b h0 at3 = .ok (h, at_, told)) (h3 : at3 ≤ b.length) : h = h0 ∧ at_ ≤ b.length ∧ told ≤ 1073741824 := by
  unfold lTail at e
  split at e
  · cases e
  · injection e with e
    injection e with e1 e2
    injection e2 with e2 e3
    have := vget_many (b.drop at3)
    rw [List.length_drop] at this
    exact ⟨e1.symm, by omega, by omega⟩
theorem lead_ok {b : List UInt8} {h : Hd} {at_ told : Nat} (e : lead b false = .ok (h, at_, told)) :
    (∃ nl : Nat, h.nl = nl ∧ 1 ≤ nl ∧ nl ≤ 4) ∧ at_ ≤ b.length ∧ told ≤ 1073741824 + b.length ∧ (h.long = false → told = b.length - at_) := by
  have h3 := and3_lt (nth b 0)
  unfold lead at e
  split at e
  · cases e
  split at e
  · cases e
  split at e
  · split at e
    · cases e
    split at e
    · cases e
    injection e with e
    injection e with e1 e2
    injection e2 with e2 e4
    subst e1
    exact ⟨⟨n8 (nth b 0 &&& 3) + 1, rfl, by omega, by omega⟩, by omega, by omega, fun _ => by omega⟩
  split at e
  · cases e
  split at e
  · cases e
  split at e
  · cases e
  rename_i d at1 hp1
  split at e
  · cases e
  rename_i s at2 hp2
  split at e
  · cases e
  rename_i t at3 hp3
  have l2 := lPart_le hp2
  have l3 := lTok_le hp3 l2
  obtain ⟨e1, e2, e3⟩ := lTail_le e l3
  subst e1
  exact ⟨⟨n8 (nth b 0 &&& 3) + 1, rfl, by omega, by omega⟩, e2, by omega, fun h => by cases h⟩
end Hdr
end
section
/- The walk of the document's Get. -/
namespace Hdr
open Go.Rw
theorem lPart_err {b : List UInt8} {at_ : Nat} {eight : Bool} {x : Int} (h : lPart b at_ eight = .error x) : x ≠ 0 := by
  unfold lPart at h
  split at h
  · injection h with h; omega
  split at h
  · injection h with h; omega
  split at h
  · injection h with h; omega
  · cases h
theorem lTok_err {b : List UInt8} {k at2 : Nat} {x : Int} (h : lTok b k at2 = .error x) : x ≠ 0 := by
  unfold lTok at h
  split at h
  · cases h
  split at h
  · injection h with h; rw [← h]; assumption
  split at h
  · injection h with h; omega
  split at h
  · injection h with h; omega
  · cases h
theorem lead_err {b : List UInt8} {m : Bool} {x : Int} (e : lead b m = .error x) : x ≠ 0 := by
  unfold lead at e
  split at e
  · injection e with e; omega
  split at e
  · injection e with e; omega
  split at e
  · split at e
    · injection e with e; omega
    split at e
    · injection e with e; omega
    · cases e
  split at e
  · injection e with e; omega
  split at e
  · injection e with e; omega
  split at e
  · injection e with e; rename_i h; rw [← e]; exact lPart_err h
  split at e
  · injection e with e; rename_i h; rw [← e]; exact lPart_err h
  split at e
  · injection e with e; rename_i h; rw [← e]; exact lTok_err h
  unfold lTail at e
  split at e
  · injection e with e; rw [← e]; assumption
  · cases e
end Hdr
namespace Go.Proofs.Ytjlpppnpdgenfaa
open Go.RowKit Go.Rw Hdr
attribute [local go_sem ↓] hvA_0 hvA_1 hvA_2 hvA_3 hvA_4 hvA_5 hvA_6 hvA_7 hvA_8 hvA_9
attribute [local go_sem ↓] ldH stH alH bdR bdH shift_shl8 shift_shr8
attribute [local go_sem] rldH rstH ralH setRow_alloc_at setRow_alloc_past setRow_drew buildR buildH buildH0
/-- What the document's Get answers. -/
def RGetPost (w : World) (q : Hd × Nat × Nat × Int) (e : Ending) (w' : World) : Prop :=
  ∃ vd vs vt, e = .returned (.tuple #[.agg (hvA q.1.long q.1.kind q.1.ver vd vs vt q.1.spin q.1.phase q.1.num q.1.nl), .int .i64 (q.2.1 : Nat), .int .i64 (q.2.2.1 : Nat), .int .i64 q.2.2.2]) ∧ Sl w' vd q.1.dst ∧ Sl w' vs q.1.src ∧ Sl w' vt q.1.tok ∧ Below w.heap.size w w'

end Go.Proofs.Ytjlpppnpdgenfaa
end
