/- HdrR2; HdrR3. -/
import Derived.Test.YtjlpppnpdgenfaaMvb6
import Derived.Test.YtjlpppnpdgenfaaMvb5
import Derived.Test.YtjlpppnpdgenfaaMvb17
section
namespace Hdr
open Go.Rw
theorem lTok_le {b : List UInt8} {k at2 at3 : Nat} {t : List UInt8} (h : lTok b k at2 = .ok (t, at3)) (h2 : at2 ≤ b.length) : at3 ≤ b.length := by
 unfold lTok at h
 split at h
 ·injection h with h; injection h with _ h; omega
 ·split at h
  ·cases h
  ·split at h
   ·cases h
   ·split at h
    ·cases h
    ·injection h with h; injection h with _ h; omega
end Hdr

end
section
namespace Hdr
open Go.Rw
theorem lPart_err {b : List UInt8} {at_ : Nat} {eight : Bool} {x : Int} (h : lPart b at_ eight = .error x) : x ≠ 0 := by
 unfold lPart at h
 split at h
 ·injection h with h; omega
 split at h
 ·injection h with h; omega
 split at h
 ·injection h with h; omega
 ·cases h
theorem lTok_err {b : List UInt8} {k at2 : Nat} {x : Int} (h : lTok b k at2 = .error x) : x ≠ 0 := by
 unfold lTok at h
 split at h
 ·cases h
 split at h
 ·injection h with h; rw [← h]; assumption
 split at h
 ·injection h with h; omega
 split at h
 ·injection h with h; omega
 ·cases h
theorem lead_err {b : List UInt8} {m : Bool} {x : Int} (e : lead b m = .error x) : x ≠ 0 := by
 unfold lead at e
 split at e
 ·injection e with e; omega
 split at e
 ·injection e with e; omega
 split at e
 ·split at e
  ·injection e with e; omega
  split at e
  ·injection e with e; omega
  ·cases e
 split at e
 ·injection e with e; omega
 split at e
 ·injection e with e; omega
 split at e
 ·injection e with e; rename_i h; rw [← e]; exact lPart_err h
 split at e
 ·injection e with e; rename_i h; rw [← e]; exact lPart_err h
 split at e
 ·injection e with e; rename_i h; rw [← e]; exact lTok_err h
 unfold lTail at e
 split at e
 ·injection e with e; rw [← e]; assumption
 ·cases e
end Hdr
namespace Go.Proofs.Ytjlpppnpdgenfaa
open Go.RowKit Go.Rw Hdr
attribute [local go_sem ↓] hvA_0 hvA_1 hvA_2 hvA_3 hvA_4 hvA_5 hvA_6 hvA_7 hvA_8 hvA_9
attribute [local go_sem ↓] ldH stH alH bdR bdH shift_shl8 shift_shr8
attribute [local go_sem] rldH rstH ralH setRow_alloc_at setRow_alloc_past setRow_drew buildR buildH buildH0
end Go.Proofs.Ytjlpppnpdgenfaa

end
