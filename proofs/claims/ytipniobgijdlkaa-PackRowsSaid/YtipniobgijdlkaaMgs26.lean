/- LawS; LawH; LawF; LawG. -/
import Derived.Test.YtipniobgijdlkaaMgs3
import Derived.Test.YtipniobgijdlkaaMgs1
import Derived.Test.YtipniobgijdlkaaMgs4
import Derived.Deep.Fields
import Derived.ChangeSame
import Derived.Test.YtipniobgijdlkaaMgs10
import Derived.Deep.Slices
import Derived.Test.YtipniobgijdlkaaMgsLibG2
section
/- Opening a law's argument: a slice of bytes. Over any program. -/
namespace Go.Law
open Go Go.RowKit Go.ChangeShapes Go.WideShapes Go.ChangeAt Go.Rw
section
variable {P : Program} {H : Type} {enc : TypeId × Value → H}
theorem open_slice {W : World} {base : Nat} {t e : TypeId} {v : Value} {d : DataW H} {p : List MemPlace} (hu : P.underlying t = some (.slice e)) (he : P.underlying e = some (.int .u8)) (hc : P.cellsOf e = 1)
    (hval : Value.okWide P W .any base t v) (h1 : DataW.Trod enc P W 0 (fun _ => true) true t v d p) : ∃ l : List UInt8, Sl W v l := by
  obtain ⟨a1, len, cap, rfl⟩ := okWide_slice hu hval
  obtain ⟨fuel, hf⟩ := h1
  rcases open_ints hu he hc hf with ⟨hcs, hx⟩ | ⟨a, len', cap', zs, hcs, _, hl, hm, hz, hx, hcell, hwz⟩
  · simp [Value.cells] at hcs
    obtain ⟨rfl, rfl, rfl⟩ := hcs
    exact ⟨[], Sl.nil W⟩
  · simp [Value.cells] at hcs
    obtain ⟨rfl, rfl, rfl⟩ := hcs
    simp only [if_true] at hz
    have hlen : ((zs.take len).map UInt8.ofInt).length = len := by simp; omega
    refine ⟨(zs.take len).map UInt8.ofInt, some a, cap, by rw [hlen], by rw [hlen]; exact hl, fun h => (by cases h), fun h0 => ?_⟩
    rw [hlen] at h0
    obtain ⟨ab, ao, spot⟩ := a
    have hspot : spot = none := by simpa [Addr.add] using World.cell?_spot (hcell 0 (by omega))
    subst hspot
    refine ⟨ab, ao, rfl, fun k hk => ?_⟩
    rw [hlen] at hk
    have hck := hcell k (by omega)
    rw [Addr.add_lit] at hck
    rw [hck]
    have e1 : zs.getD k 0 = zs[k]'(by omega) := by simp [List.getD, show k < zs.length by omega]
    have hw := hwz _ (List.getElem_mem (show k < zs.length by omega))
    have hx : 0 ≤ zs[k]'(by omega) ∧ zs[k]'(by omega) ≤ 255 := by simpa [Lit.wf, IntKind.has, IntKind.min, IntKind.max, IntKind.signed, IntKind.bits] using hw
    have e2 : nth ((zs.take len).map UInt8.ofInt) k = UInt8.ofInt (zs[k]'(by omega)) := by
      simp [nth, hk, show k < zs.length by omega]
    rw [e1, e2]
    congr 2
    simp [n8, UInt8.ofInt]; omega
end
end Go.Law
end
section
/- Opening a law's argument: a header, by value. -/
namespace Go.Law
open Go Go.RowKit Go.ChangeShapes Go.WideShapes Go.ChangeAt Go.Rw Go.Deep
section
variable {P : Program} {H : Type} {enc : TypeId × Value → H}
/-- A struct of one-cell fields, of any number: its cells, and each one's reading. -/
theorem open_agg {W : World} {r : Reach} {b0 : Nat} {t : TypeId} {fs : Array Field} {v : Value} {d : DataW H} {p : List MemPlace} (hs : P.underlying t = some (.struct fs)) (hone : oneCellFields P fs = true) (hC : P.cellsOf t = fs.size)
    (hv : Value.okWide P W r b0 t v) (h : DataW.Trod enc P W 0 (fun _ => true) true t v d p) :
    ∃ (cs : List Value) (n : Nat), v = .agg cs.toArray ∧ cs.length = fs.size ∧ ∀ (j : Nat) (f : Field) (c : Value), fs[j]? = some f → cs[j]? = some c → ∃ y, DataW.trod enc P W 0 (fun _ => true) true n f.type [c] = some y := by
  obtain ⟨⟨cs⟩, rfl, hsz⟩ := okWide_struct hs hv
  obtain ⟨fuel, hf⟩ := h
  obtain ⟨xs, n, _, hx, _, hlen, hg⟩ := DataW.trod_struct hs hf
  have hcl : cs.length = fs.size := by have := hsz.trans hC; simpa using this
  refine ⟨cs, n, rfl, hcl, fun j f c hj hc => ?_⟩
  obtain ⟨ho, hk⟩ := hone_of hone j f hj
  have hjl : j < fs.size := (Array.getElem?_eq_some_iff.1 hj).1
  have h1 := hg j f hj
  rw [ho, hk] at h1
  have e : ((Value.agg cs.toArray).cells.toList.drop j).take 1 = [c] := by
    have hcl' : (Value.agg cs.toArray).cells.toList = cs := by simp [Value.cells]
    rw [hcl', List.drop_eq_getElem_cons (by omega)]
    have := (List.getElem?_eq_some_iff.1 hc).2
    simp [this]
  rw [e] at h1
  exact ⟨xs[j]'(by omega), h1.trans (List.getElem?_eq_getElem (by omega))⟩
theorem sl_of_trod {W : World} {t e : TypeId} {v : Value} {n : Nat} {y : DataW H × List MemPlace} (hu : P.underlying t = some (.slice e)) (he : P.underlying e = some (.int .u8)) (hc : P.cellsOf e = 1)
    (hf : DataW.trod enc P W 0 (fun _ => true) true n t [v] = some y) : ∃ l : List UInt8, Sl W v l := by
  rcases open_ints hu he hc hf with ⟨hcs, hx⟩ | ⟨a, len, cap, zs, hcs, _, hl, hm, hz, hx, hcell, hwz⟩
  · injection hcs with hcs _
    subst hcs
    exact ⟨[], Sl.nil W⟩
  · injection hcs with hcs _
    subst hcs
    simp only [if_true] at hz
    have hlen : ((zs.take len).map UInt8.ofInt).length = len := by simp; omega
    refine ⟨(zs.take len).map UInt8.ofInt, some a, cap, by rw [hlen], by rw [hlen]; exact hl, fun h => (by cases h), fun h0 => ?_⟩
    rw [hlen] at h0
    obtain ⟨ab, ao, spot⟩ := a
    have hspot : spot = none := by simpa [Addr.add] using World.cell?_spot (hcell 0 (by omega))
    subst hspot
    refine ⟨ab, ao, rfl, fun k hk => ?_⟩
    rw [hlen] at hk
    have hck := hcell k (by omega)
    rw [Addr.add_lit] at hck
    rw [hck]
    have e1 : zs.getD k 0 = zs[k]'(by omega) := by simp [List.getD, show k < zs.length by omega]
    have hw := hwz _ (List.getElem_mem (show k < zs.length by omega))
    have hx : 0 ≤ zs[k]'(by omega) ∧ zs[k]'(by omega) ≤ 255 := by simpa [Lit.wf, IntKind.has, IntKind.min, IntKind.max, IntKind.signed, IntKind.bits] using hw
    have e2 : nth ((zs.take len).map UInt8.ofInt) k = UInt8.ofInt (zs[k]'(by omega)) := by
      simp [nth, List.getElem?_map, List.getElem?_take, hk, show k < zs.length by omega]
    rw [e1, e2]
    congr 2
    simp [n8, UInt8.ofInt]; omega
theorem bool_of_trod {W : World} {t : TypeId} {v : Value} {n : Nat} {y : DataW H × List MemPlace} (hu : P.underlying t = some .bool) (hf : DataW.trod enc P W 0 (fun _ => true) true n t [v] = some y) : ∃ b, v = .bool b := by
  obtain ⟨b, hb, _⟩ := DataW.trod_bool hu hf
  injection hb with hb _
  exact ⟨b, hb⟩
theorem int_of_trod {W : World} {t : TypeId} {k : IntKind} {v : Value} {n : Nat} {y : DataW H × List MemPlace} (hu : P.underlying t = some (.int k)) (hf : DataW.trod enc P W 0 (fun _ => true) true n t [v] = some y) : ∃ x, v = .int k x ∧ (Lit.int k x).wf = true := by
  obtain ⟨b, hb, _, hw⟩ := DataW.trod_int hu hf
  injection hb with hb _
  exact ⟨b, hb, hw⟩
end
end Go.Law
namespace Go.Proofs.Ytipniobgijdlkaa
open Go Go.RowKit Go.Rw Go.Deep
theorem open_header {H : Type} {enc : TypeId × Value → H} {W : World} {r : Reach} {b0 : Nat} {v : Value} {d : DataW H} {p : List MemPlace} (hv : Value.okWide Try.prog W r b0 46 v) (h : DataW.Trod enc Try.prog W 0 (fun _ => true) true 46 v d p) :
    ∃ (lg : Bool) (kind : Int) (ver : Nat) (dst src tok : List UInt8) (vd vs vt : Value) (sp ph : Bool) (num : Nat) (nl : Int), v = .agg (hvA lg kind ver vd vs vt sp ph num nl) ∧ Sl W vd dst ∧ Sl W vs src ∧ Sl W vt tok ∧ ver < 4294967296 ∧ num < 18446744073709551616 := by
  obtain ⟨cs, n, rfl, hl, hf⟩ := Law.open_agg Try.underlying46 (by kernel_rfl) (by kernel_rfl) hv h
  have hl' : cs.length = 10 := hl
  match cs, hl' with
  | [c0, c1, c2, c3, c4, c5, c6, c7, c8, c9], _ =>
    obtain ⟨y0, h0⟩ := hf 0 _ c0 rfl rfl
    obtain ⟨y1, h1⟩ := hf 1 _ c1 rfl rfl
    obtain ⟨y2, h2⟩ := hf 2 _ c2 rfl rfl
    obtain ⟨y3, h3⟩ := hf 3 _ c3 rfl rfl
    obtain ⟨y4, h4⟩ := hf 4 _ c4 rfl rfl
    obtain ⟨y5, h5⟩ := hf 5 _ c5 rfl rfl
    obtain ⟨y6, h6⟩ := hf 6 _ c6 rfl rfl
    obtain ⟨y7, h7⟩ := hf 7 _ c7 rfl rfl
    obtain ⟨y8, h8⟩ := hf 8 _ c8 rfl rfl
    obtain ⟨y9, h9⟩ := hf 9 _ c9 rfl rfl
    obtain ⟨b0, rfl⟩ := Law.bool_of_trod Try.underlying4 h0
    obtain ⟨x1, rfl, -⟩ := Law.int_of_trod Try.underlying3 h1
    obtain ⟨x2, rfl, w2⟩ := Law.int_of_trod Try.underlying44 h2
    obtain ⟨l3, s3⟩ := Law.sl_of_trod Try.underlying25 Try.underlying5 (by kernel_rfl) h3
    obtain ⟨l4, s4⟩ := Law.sl_of_trod Try.underlying25 Try.underlying5 (by kernel_rfl) h4
    obtain ⟨l5, s5⟩ := Law.sl_of_trod Try.underlying25 Try.underlying5 (by kernel_rfl) h5
    obtain ⟨b6, rfl⟩ := Law.bool_of_trod Try.underlying4 h6
    obtain ⟨b7, rfl⟩ := Law.bool_of_trod Try.underlying4 h7
    obtain ⟨x8, rfl, w8⟩ := Law.int_of_trod Try.underlying22 h8
    obtain ⟨x9, rfl, -⟩ := Law.int_of_trod Try.underlying3 h9
    have e2 : 0 ≤ x2 ∧ x2 ≤ 4294967295 := by simpa [Lit.wf, IntKind.has, IntKind.min, IntKind.max, IntKind.signed, IntKind.bits] using w2
    have e8 : 0 ≤ x8 ∧ x8 ≤ 18446744073709551615 := by simpa [Lit.wf, IntKind.has, IntKind.min, IntKind.max, IntKind.signed, IntKind.bits] using w8
    obtain ⟨n2, rfl⟩ : ∃ n : Nat, x2 = n := ⟨x2.toNat, by omega⟩
    obtain ⟨n8, rfl⟩ : ∃ n : Nat, x8 = n := ⟨x8.toNat, by omega⟩
    exact ⟨b0, x1, n2, l3, l4, l5, c3, c4, c5, b6, b7, n8, x9, rfl, s3, s4, s5, by omega, by omega⟩
end Go.Proofs.Ytipniobgijdlkaa
end
section
/- Opening a law's argument: a frame, by value. -/
namespace Go.Law
open Go Go.RowKit Go.ChangeShapes Go.WideShapes Go.ChangeAt Go.Rw Go.Deep
section
variable {P : Program} {H : Type} {enc : TypeId × Value → H}
theorem u64_of_trod {W : World} {t : TypeId} {v : Value} {n : Nat} {y : DataW H × List MemPlace} (hu : P.underlying t = some (.int .u64)) (hf : DataW.trod enc P W 0 (fun _ => true) true n t [v] = some y) : ∃ x : Nat, v = .int .u64 (x : Nat) ∧ x < 18446744073709551616 := by
  obtain ⟨x, rfl, w2⟩ := int_of_trod hu hf
  have e2 : 0 ≤ x ∧ x ≤ 18446744073709551615 := by simpa [Lit.wf, IntKind.has, IntKind.min, IntKind.max, IntKind.signed, IntKind.bits] using w2
  exact ⟨x.toNat, by congr 1; omega, by omega⟩
/-- A slice of pairs of numbers. -/
theorem sr_of_trod {W : World} {t e : TypeId} {fs : Array Field} {f0 f1 : Field} {v : Value} {n : Nat} {y : DataW H × List MemPlace} (hu : P.underlying t = some (.slice e)) (he : P.underlying e = some (.struct fs)) (hone : oneCellFields P fs = true)
    (hC : P.cellsOf e = 2) (hs : fs.size = 2) (h0 : fs[0]? = some f0) (h1 : fs[1]? = some f1) (t0 : P.underlying f0.type = some (.int .u64)) (t1 : P.underlying f1.type = some (.int .u64))
    (hf : DataW.trod enc P W 0 (fun _ => true) true n t [v] = some y) : ∃ l : List (Nat × Nat), Sr W v l := by
  rcases DataW.trod_slice hu hf with ⟨hcs, hx⟩ | ⟨a, len, cap, elems, rest, n', _, hcs, _, _, hl, _, hlen, hel, -, -⟩
  · injection hcs with hcs _
    subst hcs
    exact ⟨[], Sr.nil W⟩
  · injection hcs with hcs _
    subst hcs
    rw [hC] at hel
    have hcell : ∀ i, i < len → ∃ x z : Nat, W.cell? ((a.add (i * 2)).add 0) = some (.int .u64 (x : Nat)) ∧ W.cell? ((a.add (i * 2)).add 1) = some (.int .u64 (z : Nat)) := by
      intro i hi
      have h := hel i hi
      rw [List.getElem?_eq_getElem (by omega), Option.bind_eq_some_iff] at h
      obtain ⟨cs', hc, ht'⟩ := h
      obtain ⟨ys, m, _, hy, hl2, hyl, hg⟩ := DataW.trod_struct he ht'
      obtain ⟨_, hcl, hat⟩ := World.cells?_some hc
      have one : ∀ (j : Nat) (f : Field), fs[j]? = some f → P.underlying f.type = some (.int .u64) → j < 2 → ∃ x : Nat, W.cell? ((a.add (i * 2)).add j) = some (.int .u64 (x : Nat)) := by
        intro j f hj ht hj2
        obtain ⟨ho, hk⟩ := hone_of hone j f hj
        have hg1 := hg j f hj
        rw [ho, hk] at hg1
        have e1 : (cs'.drop j).take 1 = [cs'[j]'(by omega)] := by
          rw [List.drop_eq_getElem_cons (by omega)]; rfl
        rw [e1] at hg1
        obtain ⟨x, hx, -⟩ := u64_of_trod ht (hg1.trans (List.getElem?_eq_getElem (by omega)))
        exact ⟨x, by rw [hat j hj2, List.getElem?_eq_getElem (by omega), hx]⟩
      obtain ⟨x, hx⟩ := one 0 f0 h0 t0 (by omega)
      obtain ⟨z, hz⟩ := one 1 f1 h1 t1 (by omega)
      exact ⟨x, z, hx, hz⟩
    obtain ⟨q, hq⟩ : ∃ q : Nat → Nat × Nat, ∀ i, i < len → W.cell? ((a.add (i * 2)).add 0) = some (.int .u64 ((q i).1 : Nat)) ∧ W.cell? ((a.add (i * 2)).add 1) = some (.int .u64 ((q i).2 : Nat)) :=
      Classical.axiomOfChoice (r := fun i (p : Nat × Nat) => i < len → W.cell? ((a.add (i * 2)).add 0) = some (.int .u64 (p.1 : Nat)) ∧ W.cell? ((a.add (i * 2)).add 1) = some (.int .u64 (p.2 : Nat)))
        (fun i => by
          by_cases hi : i < len
          · obtain ⟨x, z, h⟩ := hcell i hi; exact ⟨(x, z), fun _ => h⟩
          · exact ⟨(0, 0), fun h => absurd h hi⟩)
    have hL : ((List.range len).map q).length = len := by simp
    refine ⟨(List.range len).map q, some a, cap, by rw [hL], by rw [hL]; exact hl, fun h => (by cases h), fun h0 => ?_⟩
    rw [hL] at h0
    obtain ⟨ab, ao, spot⟩ := a
    have hspot : spot = none := by simpa [Addr.add] using World.cell?_spot (hq 0 (by omega)).1
    subst hspot
    refine ⟨ab, ao, rfl, fun k hk => ?_⟩
    rw [hL] at hk
    have h := hq k hk
    simp only [Addr.add_lit] at h
    have e : ((List.range len).map q).getD k (0, 0) = q k := by simp [List.getD, hk]
    unfold rlo rhi
    rw [e]
    exact ⟨by simpa using h.1, h.2⟩
end
end Go.Law
namespace Go.Proofs.Ytipniobgijdlkaa
open Go Go.RowKit Go.Rw Go.Deep Frm
theorem open_frame {H : Type} {enc : TypeId × Value → H} {W : World} {r : Reach} {b0 : Nat} {v : Value} {d : DataW H} {p : List MemPlace} (hv : Value.okWide Try.prog W r b0 28 v) (h : DataW.Trod enc Try.prog W 0 (fun _ => true) true 28 v d p) :
    ∃ f : Fr, Fv W v f ∧ f.n < 18446744073709551616 ∧ f.d < 18446744073709551616 ∧ f.i < 18446744073709551616 ∧ f.o < 18446744073709551616 := by
  obtain ⟨cs, n, rfl, hl, hf⟩ := Law.open_agg Try.underlying28 (by kernel_rfl) (by kernel_rfl) hv h
  have hl' : cs.length = 10 := hl
  match cs, hl' with
  | [c0, c1, c2, c3, c4, c5, c6, c7, c8, c9], _ =>
    obtain ⟨y0, h0⟩ := hf 0 _ c0 rfl rfl
    obtain ⟨y1, h1⟩ := hf 1 _ c1 rfl rfl
    obtain ⟨y2, h2⟩ := hf 2 _ c2 rfl rfl
    obtain ⟨y3, h3⟩ := hf 3 _ c3 rfl rfl
    obtain ⟨y4, h4⟩ := hf 4 _ c4 rfl rfl
    obtain ⟨y5, h5⟩ := hf 5 _ c5 rfl rfl
    obtain ⟨y6, h6⟩ := hf 6 _ c6 rfl rfl
    obtain ⟨y7, h7⟩ := hf 7 _ c7 rfl rfl
    obtain ⟨y8, h8⟩ := hf 8 _ c8 rfl rfl
    obtain ⟨y9, h9⟩ := hf 9 _ c9 rfl rfl
    obtain ⟨x0, rfl, -⟩ := Law.int_of_trod Try.underlying3 h0
    obtain ⟨x1, rfl, w1⟩ := Law.u64_of_trod Try.underlying22 h1
    obtain ⟨x2, rfl, w2⟩ := Law.u64_of_trod Try.underlying22 h2
    obtain ⟨l3, s3⟩ := Law.sr_of_trod Try.underlying26 Try.underlying58 (by kernel_rfl) (by kernel_rfl) rfl rfl rfl Try.underlying22 Try.underlying22 h3
    obtain ⟨x4, rfl, w4⟩ := Law.u64_of_trod Try.underlying22 h4
    obtain ⟨x5, rfl, w5⟩ := Law.u64_of_trod Try.underlying22 h5
    obtain ⟨b6, rfl⟩ := Law.bool_of_trod Try.underlying4 h6
    obtain ⟨l7, s7⟩ := Law.sl_of_trod Try.underlying25 Try.underlying5 (by kernel_rfl) h7
    obtain ⟨l8, s8⟩ := Law.sl_of_trod Try.underlying25 Try.underlying5 (by kernel_rfl) h8
    obtain ⟨l9, s9⟩ := Law.sl_of_trod Try.underlying25 Try.underlying5 (by kernel_rfl) h9
    exact ⟨⟨x0, x1, x2, l3, x4, x5, b6, l7, l8, l9⟩, ⟨c3, c7, c8, c9, rfl, s3, s7, s8, s9⟩, w1, w2, w4, w5⟩
end Go.Proofs.Ytipniobgijdlkaa
end
section
/- Opening a law's argument: a slice of frames. -/
namespace Go.Law
open Go Go.RowKit Go.ChangeShapes Go.WideShapes Go.ChangeAt Go.Rw Go.Deep
variable {P : Program} {H : Type} {enc : TypeId × Value → H}
theorem fields_of_trod {W : World} {t : TypeId} {fs : Array Field} {cs : List Value} {m : Nat} {y : DataW H × List MemPlace} (hs : P.underlying t = some (.struct fs)) (hone : oneCellFields P fs = true) (hl : cs.length = fs.size)
    (hf : DataW.trod enc P W 0 (fun _ => true) true m t cs = some y) :
    ∃ n : Nat, ∀ (j : Nat) (f : Field) (c : Value), fs[j]? = some f → cs[j]? = some c → ∃ y, DataW.trod enc P W 0 (fun _ => true) true n f.type [c] = some y := by
  obtain ⟨xs, n, _, hx, _, hlen, hg⟩ := DataW.trod_struct hs hf
  refine ⟨n, fun j f c hj hc => ?_⟩
  obtain ⟨ho, hk⟩ := hone_of hone j f hj
  have hjl : j < fs.size := (Array.getElem?_eq_some_iff.1 hj).1
  have h1 := hg j f hj
  rw [ho, hk] at h1
  have e : (cs.drop j).take 1 = [c] := by
    rw [List.drop_eq_getElem_cons (by omega)]
    have := (List.getElem?_eq_some_iff.1 hc).2
    simp [this]
  rw [e] at h1
  exact ⟨xs[j]'(by omega), h1.trans (List.getElem?_eq_getElem (by omega))⟩
end Go.Law
namespace Go.Proofs.Ytipniobgijdlkaa
open Go Go.RowKit Go.Rw Go.Deep Frm Go.ChangeShapes Go.WideShapes Go.ChangeAt
theorem frame_of_trod {H : Type} {enc : TypeId × Value → H} {W : World} {cs : List Value} {m : Nat} {y : DataW H × List MemPlace} (hl' : cs.length = 10) (h : DataW.trod enc Try.prog W 0 (fun _ => true) true m 28 cs = some y) :
    ∃ f : Fr, Fv W (.agg cs.toArray) f := by
  obtain ⟨n, hf⟩ := Law.fields_of_trod Try.underlying28 (by kernel_rfl) (by exact hl') h
  match cs, hl' with
  | [c0, c1, c2, c3, c4, c5, c6, c7, c8, c9], _ =>
    obtain ⟨y0, h0⟩ := hf 0 _ c0 rfl rfl
    obtain ⟨y1, h1⟩ := hf 1 _ c1 rfl rfl
    obtain ⟨y2, h2⟩ := hf 2 _ c2 rfl rfl
    obtain ⟨y3, h3⟩ := hf 3 _ c3 rfl rfl
    obtain ⟨y4, h4⟩ := hf 4 _ c4 rfl rfl
    obtain ⟨y5, h5⟩ := hf 5 _ c5 rfl rfl
    obtain ⟨y6, h6⟩ := hf 6 _ c6 rfl rfl
    obtain ⟨y7, h7⟩ := hf 7 _ c7 rfl rfl
    obtain ⟨y8, h8⟩ := hf 8 _ c8 rfl rfl
    obtain ⟨y9, h9⟩ := hf 9 _ c9 rfl rfl
    obtain ⟨x0, rfl, -⟩ := Law.int_of_trod Try.underlying3 h0
    obtain ⟨x1, rfl, w1⟩ := Law.u64_of_trod Try.underlying22 h1
    obtain ⟨x2, rfl, w2⟩ := Law.u64_of_trod Try.underlying22 h2
    obtain ⟨l3, s3⟩ := Law.sr_of_trod Try.underlying26 Try.underlying58 (by kernel_rfl) (by kernel_rfl) rfl rfl rfl Try.underlying22 Try.underlying22 h3
    obtain ⟨x4, rfl, w4⟩ := Law.u64_of_trod Try.underlying22 h4
    obtain ⟨x5, rfl, w5⟩ := Law.u64_of_trod Try.underlying22 h5
    obtain ⟨b6, rfl⟩ := Law.bool_of_trod Try.underlying4 h6
    obtain ⟨l7, s7⟩ := Law.sl_of_trod Try.underlying25 Try.underlying5 (by kernel_rfl) h7
    obtain ⟨l8, s8⟩ := Law.sl_of_trod Try.underlying25 Try.underlying5 (by kernel_rfl) h8
    obtain ⟨l9, s9⟩ := Law.sl_of_trod Try.underlying25 Try.underlying5 (by kernel_rfl) h9
    exact ⟨⟨x0, x1, x2, l3, x4, x5, b6, l7, l8, l9⟩, ⟨c3, c7, c8, c9, rfl, s3, s7, s8, s9⟩⟩
theorem open_frames {H : Type} {enc : TypeId × Value → H} {W : World} {base : Nat} {v : Value} {d : DataW H} {p : List MemPlace} (hv : Value.okWide Try.prog W .any base 32 v) (h : DataW.Trod enc Try.prog W 0 (fun _ => true) true 32 v d p) :
    ∃ fs : List Fr, Fsl W v fs := by
  obtain ⟨a1, len, cap, rfl⟩ := okWide_slice Try.underlying32 hv
  obtain ⟨fuel, hf⟩ := h
  rcases DataW.trod_slice Try.underlying32 hf with ⟨hcs, hx⟩ | ⟨a, len', cap', elems, rest, n', _, hcs, _, _, hl, _, hlen, hel, -, -⟩
  · simp [Value.cells] at hcs
    obtain ⟨rfl, rfl, rfl⟩ := hcs
    exact ⟨[], Fsl.nil W⟩
  · simp [Value.cells] at hcs
    obtain ⟨rfl, rfl, rfl⟩ := hcs
    have hC : Try.prog.cellsOf 28 = 10 := by kernel_rfl
    rw [hC] at hel
    have each : ∀ i, i < len → ∃ q : Array Value × Fr, q.1.size = 10 ∧ Fv W (.agg q.1) q.2 ∧ ∀ j, j < 10 → W.cell? ((a.add (i * 10)).add j) = q.1[j]? := by
      intro i hi
      have h := hel i hi
      rw [List.getElem?_eq_getElem (by omega), Option.bind_eq_some_iff] at h
      obtain ⟨cs', hc, ht'⟩ := h
      obtain ⟨_, hcl, hat⟩ := World.cells?_some hc
      obtain ⟨f, hfv⟩ := frame_of_trod hcl ht'
      exact ⟨(cs'.toArray, f), by simpa using hcl, hfv, fun j hj => by rw [hat j hj]; simp⟩
    obtain ⟨q, hq⟩ : ∃ q : Nat → Array Value × Fr, ∀ i, i < len → (q i).1.size = 10 ∧ Fv W (.agg (q i).1) (q i).2 ∧ ∀ j, j < 10 → W.cell? ((a.add (i * 10)).add j) = (q i).1[j]? :=
      Classical.axiomOfChoice (r := fun i (p : Array Value × Fr) => i < len → p.1.size = 10 ∧ Fv W (.agg p.1) p.2 ∧ ∀ j, j < 10 → W.cell? ((a.add (i * 10)).add j) = p.1[j]?)
        (fun i => by
          by_cases hi : i < len
          · obtain ⟨p, h⟩ := each i hi; exact ⟨p, fun _ => h⟩
          · exact ⟨(#[], fr0), fun h => absurd h hi⟩)
    have hL : ((List.range len).map fun i => (q i).2).length = len := by simp
    refine ⟨(List.range len).map fun i => (q i).2, some a, cap, by rw [hL], fun h0 => ?_⟩
    rw [hL] at h0
    obtain ⟨ab, ao, spot⟩ := a
    have hspot : spot = none := by
      obtain ⟨h1, _, h3⟩ := hq 0 (by omega)
      have h4 := h3 0 (by decide)
      rw [Array.getElem?_eq_getElem (by omega)] at h4
      simpa [Addr.add] using World.cell?_spot h4
    subst hspot
    refine ⟨ab, ao, rfl, fun k hk => ?_⟩
    rw [hL] at hk
    obtain ⟨h1, h2, h3⟩ := hq k hk
    have e : ((List.range len).map fun i => (q i).2).getD k fr0 = (q k).2 := by simp [List.getD, hk]
    rw [e]
    refine ⟨(q k).1, h1, h2, fun j hj => ?_⟩
    have h4 := h3 j hj
    simp only [Addr.add_lit] at h4
    exact h4
end Go.Proofs.Ytipniobgijdlkaa
end
