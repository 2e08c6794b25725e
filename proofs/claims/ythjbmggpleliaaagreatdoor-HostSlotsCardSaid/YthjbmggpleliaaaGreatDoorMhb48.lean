/- LawS; LawH. -/
import Derived.Test.YthjbmggpleliaaaGreatDoorMhb23
import Derived.Test.YthjbmggpleliaaaGreatDoorMhb1
import Derived.Test.YthjbmggpleliaaaGreatDoorMhb13
import Derived.Deep.Fields
import Derived.ChangeSame
section


end
section
namespace Go.Law
open Go Go.RowKit Go.ChangeShapes Go.WideShapes Go.ChangeAt Go.Rw Go.Deep
section
variable {P : Program} {H : Type} {enc : TypeId × Value → H}
theorem open_agg {W : World} {r : Reach} {b0 : Nat} {t : TypeId} {fs : Array Field} {v : Value} {d : DataW H} {p : List MemPlace} (hs : P.underlying t = some (.struct fs)) (hone : oneCellFields P fs = true) (hC : P.cellsOf t = fs.size)
  (hv : Value.okWide P W r b0 t v) (h : DataW.Trod enc P W 0 (fun _ => true) true t v d p) :
  ∃ (cs : List Value) (n : Nat), v = .agg cs.toArray ∧ cs.length = fs.size ∧ ∀ (j : Nat) (f : Field) (c : Value), fs[j]? = some f → cs[j]? = some c → ∃ y, DataW.trod enc P W 0 (fun _ => true) true n f.type [c] = some y := by
 obtain ⟨⟨cs⟩, rfl, hsz⟩ := okWide_struct hs hv
 obtain ⟨fuel, hf⟩ := h
 obtain ⟨xs, n, _, hx, _, hlen, hg⟩ := DataW.trod_struct hs hf
 have hcl : cs.length = fs.size := by have := hsz.trans hC; simpa using this
 refine ⟨cs, n, rfl, hcl, fun j f c hj hc => ?_⟩
 obtain ⟨ho, hk⟩ := hone_of hone j f hj
 have hjl : j < fs.size := (Array.getElem?_eq_some_iff.1 hj).1
 have h1 := hg j f hj
 rw [ho, hk] at h1
 have e : ((Value.agg cs.toArray).cells.toList.drop j).take 1 = [c] := by
  have hcl' : (Value.agg cs.toArray).cells.toList = cs := by simp [Value.cells]
  rw [hcl', List.drop_eq_getElem_cons (by omega)]
  have := (List.getElem?_eq_some_iff.1 hc).2
  simp [this]
 rw [e] at h1
 exact ⟨xs[j]'(by omega), h1.trans (List.getElem?_eq_getElem (by omega))⟩
theorem sl_of_trod {W : World} {t e : TypeId} {v : Value} {n : Nat} {y : DataW H × List MemPlace} (hu : P.underlying t = some (.slice e)) (he : P.underlying e = some (.int .u8)) (hc : P.cellsOf e = 1)
  (hf : DataW.trod enc P W 0 (fun _ => true) true n t [v] = some y) : ∃ l : List UInt8, Sl W v l := by
 rcases open_ints hu he hc hf with ⟨hcs, hx⟩ | ⟨a, len, cap, zs, hcs, _, hl, hm, hz, hx, hcell, hwz⟩
 ·injection hcs with hcs _
  subst hcs
  exact ⟨[], Sl.nil W⟩
 ·injection hcs with hcs _
  subst hcs
  simp only [if_true] at hz
  have hlen : ((zs.take len).map UInt8.ofInt).length = len := by simp; omega
  refine ⟨(zs.take len).map UInt8.ofInt, some a, cap, by rw [hlen], by rw [hlen]; exact hl, fun h => (by cases h), fun h0 => ?_⟩
  rw [hlen] at h0
  obtain ⟨ab, ao, spot⟩ := a
  have hspot : spot = none := by simpa [Addr.add] using World.cell?_spot (hcell 0 (by omega))
  subst hspot
  refine ⟨ab, ao, rfl, fun k hk => ?_⟩
  rw [hlen] at hk
  have hck := hcell k (by omega)
  rw [Addr.add_lit] at hck
  rw [hck]
  have e1 : zs.getD k 0 = zs[k]'(by omega) := by simp [List.getD, show k < zs.length by omega]
  have hw := hwz _ (List.getElem_mem (show k < zs.length by omega))
  have hx : 0 ≤ zs[k]'(by omega) ∧ zs[k]'(by omega) ≤ 255 := by simpa [Lit.wf, IntKind.has, IntKind.min, IntKind.max, IntKind.signed, IntKind.bits] using hw
  have e2 : nth ((zs.take len).map UInt8.ofInt) k = UInt8.ofInt (zs[k]'(by omega)) := by
   simp [nth, List.getElem?_map, List.getElem?_take, hk, show k < zs.length by omega]
  rw [e1, e2]
  congr 2
  simp [n8, UInt8.ofInt]; omega
theorem bool_of_trod {W : World} {t : TypeId} {v : Value} {n : Nat} {y : DataW H × List MemPlace} (hu : P.underlying t = some .bool) (hf : DataW.trod enc P W 0 (fun _ => true) true n t [v] = some y) : ∃ b, v = .bool b := by
 obtain ⟨b, hb, _⟩ := DataW.trod_bool hu hf
 injection hb with hb _
 exact ⟨b, hb⟩
end
end Go.Law
namespace Go.Proofs.YthjbmggpleliaaaGreatDoor
open Go Go.RowKit Go.Rw Go.Deep
end Go.Proofs.YthjbmggpleliaaaGreatDoor

end
