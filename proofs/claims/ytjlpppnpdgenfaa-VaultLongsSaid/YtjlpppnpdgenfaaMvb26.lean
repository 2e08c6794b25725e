/- LawS; LawH. -/
import Derived.Test.YtjlpppnpdgenfaaMvb19
import Derived.Test.YtjlpppnpdgenfaaMvb1
import Derived.Test.YtjlpppnpdgenfaaMvb5
import Derived.Deep.Fields
import Derived.ChangeSame
section
namespace Go.Law
open Go Go.RowKit Go.ChangeShapes Go.WideShapes Go.ChangeAt Go.Rw
section
variable {P : Program} {H : Type} {enc : TypeId × Value → H}
theorem open_slice {W : World} {base : Nat} {t e : TypeId} {v : Value} {d : DataW H} {p : List MemPlace} (hu : P.underlying t = some (.slice e)) (he : P.underlying e = some (.int .u8)) (hc : P.cellsOf e = 1)
  (hval : Value.okWide P W .any base t v) (h1 : DataW.Trod enc P W 0 (fun _ => true) true t v d p) : ∃ l : List UInt8, Sl W v l := by
 obtain ⟨a1, len, cap, rfl⟩ := okWide_slice hu hval
 obtain ⟨fuel, hf⟩ := h1
 rcases open_ints hu he hc hf with ⟨hcs, hx⟩ | ⟨a, len', cap', zs, hcs, _, hl, hm, hz, hx, hcell, hwz⟩
 ·simp [Value.cells] at hcs
  obtain ⟨rfl, rfl, rfl⟩ := hcs
  exact ⟨[], Sl.nil W⟩
 ·simp [Value.cells] at hcs
  obtain ⟨rfl, rfl, rfl⟩ := hcs
  simp only [if_true] at hz
  have hlen : ((zs.take len).map UInt8.ofInt).length = len := by simp; omega
  refine ⟨(zs.take len).map UInt8.ofInt, some a, cap, by rw [hlen], by rw [hlen]; exact hl, fun h => (by cases h), fun h0 => ?_⟩
  rw [hlen] at h0
  obtain ⟨ab, ao, spot⟩ := a
  have hspot : spot = none := by simpa [Addr.add] using World.cell?_spot (hcell 0 (by omega))
  subst hspot
  refine ⟨ab, ao, rfl, fun k hk => ?_⟩
  rw [hlen] at hk
  have hck := hcell k (by omega)
  rw [Addr.add_lit] at hck
  rw [hck]
  have e1 : zs.getD k 0 = zs[k]'(by omega) := by simp [List.getD, show k < zs.length by omega]
  have hw := hwz _ (List.getElem_mem (show k < zs.length by omega))
  have hx : 0 ≤ zs[k]'(by omega) ∧ zs[k]'(by omega) ≤ 255 := by simpa [Lit.wf, IntKind.has, IntKind.min, IntKind.max, IntKind.signed, IntKind.bits] using hw
  have e2 : nth ((zs.take len).map UInt8.ofInt) k = UInt8.ofInt (zs[k]'(by omega)) := by
   simp [nth, hk, show k < zs.length by omega]
  rw [e1, e2]
  congr 2
  simp [n8, UInt8.ofInt]; omega
end
end Go.Law

end
section
namespace Go.Law
open Go Go.RowKit Go.ChangeShapes Go.WideShapes Go.ChangeAt Go.Rw Go.Deep
section
variable {P : Program} {H : Type} {enc : TypeId × Value → H}
theorem open_agg {W : World} {r : Reach} {b0 : Nat} {t : TypeId} {fs : Array Field} {v : Value} {d : DataW H} {p : List MemPlace} (hs : P.underlying t = some (.struct fs)) (hone : oneCellFields P fs = true) (hC : P.cellsOf t = fs.size)
  (hv : Value.okWide P W r b0 t v) (h : DataW.Trod enc P W 0 (fun _ => true) true t v d p) :
  ∃ (cs : List Value) (n : Nat), v = .agg cs.toArray ∧ cs.length = fs.size ∧ ∀ (j : Nat) (f : Field) (c : Value), fs[j]? = some f → cs[j]? = some c → ∃ y, DataW.trod enc P W 0 (fun _ => true) true n f.type [c] = some y := by
 obtain ⟨⟨cs⟩, rfl, hsz⟩ := okWide_struct hs hv
 obtain ⟨fuel, hf⟩ := h
 obtain ⟨xs, n, _, hx, _, hlen, hg⟩ := DataW.trod_struct hs hf
 have hcl : cs.length = fs.size := by have := hsz.trans hC; simpa using this
 refine ⟨cs, n, rfl, hcl, fun j f c hj hc => ?_⟩
 obtain ⟨ho, hk⟩ := hone_of hone j f hj
 have hjl : j < fs.size := (Array.getElem?_eq_some_iff.1 hj).1
 have h1 := hg j f hj
 rw [ho, hk] at h1
 have e : ((Value.agg cs.toArray).cells.toList.drop j).take 1 = [c] := by
  have hcl' : (Value.agg cs.toArray).cells.toList = cs := by simp [Value.cells]
  rw [hcl', List.drop_eq_getElem_cons (by omega)]
  have := (List.getElem?_eq_some_iff.1 hc).2
  simp [this]
 rw [e] at h1
 exact ⟨xs[j]'(by omega), h1.trans (List.getElem?_eq_getElem (by omega))⟩
theorem sl_of_trod {W : World} {t e : TypeId} {v : Value} {n : Nat} {y : DataW H × List MemPlace} (hu : P.underlying t = some (.slice e)) (he : P.underlying e = some (.int .u8)) (hc : P.cellsOf e = 1)
  (hf : DataW.trod enc P W 0 (fun _ => true) true n t [v] = some y) : ∃ l : List UInt8, Sl W v l := by
 rcases open_ints hu he hc hf with ⟨hcs, hx⟩ | ⟨a, len, cap, zs, hcs, _, hl, hm, hz, hx, hcell, hwz⟩
 ·injection hcs with hcs _
  subst hcs
  exact ⟨[], Sl.nil W⟩
 ·injection hcs with hcs _
  subst hcs
  simp only [if_true] at hz
  have hlen : ((zs.take len).map UInt8.ofInt).length = len := by simp; omega
  refine ⟨(zs.take len).map UInt8.ofInt, some a, cap, by rw [hlen], by rw [hlen]; exact hl, fun h => (by cases h), fun h0 => ?_⟩
  rw [hlen] at h0
  obtain ⟨ab, ao, spot⟩ := a
  have hspot : spot = none := by simpa [Addr.add] using World.cell?_spot (hcell 0 (by omega))
  subst hspot
  refine ⟨ab, ao, rfl, fun k hk => ?_⟩
  rw [hlen] at hk
  have hck := hcell k (by omega)
  rw [Addr.add_lit] at hck
  rw [hck]
  have e1 : zs.getD k 0 = zs[k]'(by omega) := by simp [List.getD, show k < zs.length by omega]
  have hw := hwz _ (List.getElem_mem (show k < zs.length by omega))
  have hx : 0 ≤ zs[k]'(by omega) ∧ zs[k]'(by omega) ≤ 255 := by simpa [Lit.wf, IntKind.has, IntKind.min, IntKind.max, IntKind.signed, IntKind.bits] using hw
  have e2 : nth ((zs.take len).map UInt8.ofInt) k = UInt8.ofInt (zs[k]'(by omega)) := by
   simp [nth, List.getElem?_map, List.getElem?_take, hk, show k < zs.length by omega]
  rw [e1, e2]
  congr 2
  simp [n8, UInt8.ofInt]; omega
theorem bool_of_trod {W : World} {t : TypeId} {v : Value} {n : Nat} {y : DataW H × List MemPlace} (hu : P.underlying t = some .bool) (hf : DataW.trod enc P W 0 (fun _ => true) true n t [v] = some y) : ∃ b, v = .bool b := by
 obtain ⟨b, hb, _⟩ := DataW.trod_bool hu hf
 injection hb with hb _
 exact ⟨b, hb⟩
theorem int_of_trod {W : World} {t : TypeId} {k : IntKind} {v : Value} {n : Nat} {y : DataW H × List MemPlace} (hu : P.underlying t = some (.int k)) (hf : DataW.trod enc P W 0 (fun _ => true) true n t [v] = some y) : ∃ x, v = .int k x ∧ (Lit.int k x).wf = true := by
 obtain ⟨b, hb, _, hw⟩ := DataW.trod_int hu hf
 injection hb with hb _
 exact ⟨b, hb, hw⟩
end
end Go.Law
namespace Go.Proofs.Ytjlpppnpdgenfaa
open Go Go.RowKit Go.Rw Go.Deep
set_option maxRecDepth 100000 in
theorem open_header {H : Type} {enc : TypeId × Value → H} {W : World} {r : Reach} {b0 : Nat} {v : Value} {d : DataW H} {p : List MemPlace} (hv : Value.okWide Try.prog W r b0 30 v) (h : DataW.Trod enc Try.prog W 0 (fun _ => true) true 30 v d p) :
  ∃ (lg : Bool) (kind : Int) (ver : Nat) (dst src tok : List UInt8) (vd vs vt : Value) (sp ph : Bool) (num : Nat) (nl : Int), v = .agg (hvA lg kind ver vd vs vt sp ph num nl) ∧ Sl W vd dst ∧ Sl W vs src ∧ Sl W vt tok ∧ ver < 4294967296 ∧ num < 18446744073709551616 := by
 obtain ⟨cs, n, rfl, hl, hf⟩ := Law.open_agg Try.underlying30 (by kernel_rfl) (by kernel_rfl) hv h
 have hl' : cs.length = 10 := hl
 match cs, hl' with
 | [c0, c1, c2, c3, c4, c5, c6, c7, c8, c9], _ =>
  obtain ⟨y0, h0⟩ := hf 0 _ c0 rfl rfl
  obtain ⟨y1, h1⟩ := hf 1 _ c1 rfl rfl
  obtain ⟨y2, h2⟩ := hf 2 _ c2 rfl rfl
  obtain ⟨y3, h3⟩ := hf 3 _ c3 rfl rfl
  obtain ⟨y4, h4⟩ := hf 4 _ c4 rfl rfl
  obtain ⟨y5, h5⟩ := hf 5 _ c5 rfl rfl
  obtain ⟨y6, h6⟩ := hf 6 _ c6 rfl rfl
  obtain ⟨y7, h7⟩ := hf 7 _ c7 rfl rfl
  obtain ⟨y8, h8⟩ := hf 8 _ c8 rfl rfl
  obtain ⟨y9, h9⟩ := hf 9 _ c9 rfl rfl
  obtain ⟨b0, rfl⟩ := Law.bool_of_trod Try.underlying4 h0
  obtain ⟨x1, rfl, -⟩ := Law.int_of_trod Try.underlying3 h1
  obtain ⟨x2, rfl, w2⟩ := Law.int_of_trod Try.underlying26 h2
  obtain ⟨l3, s3⟩ := Law.sl_of_trod Try.underlying27 Try.underlying5 (by kernel_rfl) h3
  obtain ⟨l4, s4⟩ := Law.sl_of_trod Try.underlying27 Try.underlying5 (by kernel_rfl) h4
  obtain ⟨l5, s5⟩ := Law.sl_of_trod Try.underlying27 Try.underlying5 (by kernel_rfl) h5
  obtain ⟨b6, rfl⟩ := Law.bool_of_trod Try.underlying4 h6
  obtain ⟨b7, rfl⟩ := Law.bool_of_trod Try.underlying4 h7
  obtain ⟨x8, rfl, w8⟩ := Law.int_of_trod Try.underlying28 h8
  obtain ⟨x9, rfl, -⟩ := Law.int_of_trod Try.underlying3 h9
  have e2 : 0 ≤ x2 ∧ x2 ≤ 4294967295 := by simpa [Lit.wf, IntKind.has, IntKind.min, IntKind.max, IntKind.signed, IntKind.bits] using w2
  have e8 : 0 ≤ x8 ∧ x8 ≤ 18446744073709551615 := by simpa [Lit.wf, IntKind.has, IntKind.min, IntKind.max, IntKind.signed, IntKind.bits] using w8
  obtain ⟨n2, rfl⟩ : ∃ n : Nat, x2 = n := ⟨x2.toNat, by omega⟩
  obtain ⟨n8, rfl⟩ : ∃ n : Nat, x8 = n := ⟨x8.toNat, by omega⟩
  exact ⟨b0, x1, n2, l3, l4, l5, c3, c4, c5, b6, b7, n8, x9, rfl, s3, s4, s5, by omega, by omega⟩
end Go.Proofs.Ytjlpppnpdgenfaa

end
