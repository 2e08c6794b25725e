/- AesR5; GcmR3; GcmR4; GcmR5. -/
import Derived.Test.YthjbmggpleliaaaGreatDoorMhb9
import Derived.Test.YthjbmggpleliaaaGreatDoorMhb10
import Derived.Test.YthjbmggpleliaaaGreatDoorMhb7
import Derived.RegionTactic
import Derived.BigRegion
import Derived.Test.YthjbmggpleliaaaGreatDoorMhb2
section
namespace Go.Rw
open Go Go.RowKit
variable {P : Program}
theorem splice_toList (c : Array Value) (o : Nat) (c' : Array Value) : (splice c o c').toList = c.toList.take o ++ c'.toList ++ c.toList.drop (o + c'.size) := by simp [splice]
theorem set_fold : ∀ (vs : List Value) (off k : Nat) (cells : Array Value), off + k + vs.length ≤ cells.size →
  ((vs.zipIdx k).foldl (fun cs (p : Value × Nat) => cs.setIfInBounds (off + p.2) p.1) cells).toList = cells.toList.take (off + k) ++ vs ++ cells.toList.drop (off + k + vs.length)
 | [], off, k, cells, _ => by simp
 | v :: vs, off, k, cells, h => by
  simp only [List.length_cons] at h
  rw [List.zipIdx_cons, List.foldl_cons, set_fold vs off (k + 1) _ (by simp; omega)]
  have hl : off + k < cells.toList.length := by simp; omega
  simp only [Array.toList_setIfInBounds, List.length_cons]
  rw [show off + (k + 1) = off + k + 1 by omega, List.set_eq_take_append_cons_drop, if_pos hl]
  have ht : (cells.toList.take (off + k)).length = off + k := by rw [List.length_take]; omega
  have hd : (cells.toList.take (off + k)).drop (off + k + 1 + vs.length) = [] := List.drop_eq_nil_of_le (by omega)
  have htk : (cells.toList.take (off + k)).take (off + k + 1) = cells.toList.take (off + k) := List.take_of_length_le (by omega)
  rw [List.take_append, List.drop_append, ht, hd, htk, show off + k + 1 - (off + k) = 1 by omega, show off + k + 1 + vs.length - (off + k) = vs.length + 1 by omega]
  simp only [List.take_succ_cons, List.take_zero, List.drop_succ_cons, List.drop_drop, List.nil_append, List.append_assoc, List.cons_append]
  rw [show off + k + 1 + vs.length = off + k + (vs.length + 1) by omega]
theorem fill_over (off : Nat) (vs cells : Array Value) (h : off + vs.size ≤ cells.size) :
  vs.zipIdx.foldl (fun cs (p : Value × Nat) => cs.setIfInBounds (off + p.2) p.1) cells = splice cells off vs := by
 apply Array.ext'
 rw [splice_toList, ← Array.foldl_toList, Array.toList_zipIdx, set_fold vs.toList off 0 cells (by simpa using h)]
 simp
end Go.Rw
namespace Go.Proofs.YthjbmggpleliaaaGreatDoor
open Go.RowKit Go.Rw Aes
attribute [local go_sem ↓] ld16 st16 al16 ld176 st176 al176 shift_shl8 shift_shr8 bvs_getElem?
attribute [local go_sem] rst16p rld16p rld16 rst16 ral16 rld176 rst176 ral176 setRow_alloc_at setRow_alloc_past setRow_drew bvs_setn cipher_length
end Go.Proofs.YthjbmggpleliaaaGreatDoor

end
section


end
section


end
section


end
