/- Opening a law's argument: a slice of uint64. Over any program. -/
import Derived.Test.YtipniobgijdlkaaMgj2
import Derived.Test.YtipniobgijdlkaaLibU
namespace Go.Law
open Go Go.RowKit Go.ChangeShapes Go.WideShapes Go.ChangeAt Go.Rw
variable {P : Program} {H : Type} {enc : TypeId × Value → H}
theorem open_uslice {W : World} {base : Nat} {t e : TypeId} {v : Value} {d : DataW H} {p : List MemPlace} (hu : P.underlying t = some (.slice e)) (he : P.underlying e = some (.int .u64)) (hc : P.cellsOf e = 1)
    (hval : Value.okWide P W .any base t v) (h1 : DataW.Trod enc P W 0 (fun _ => true) true t v d p) : ∃ l : List Nat, Su W v l := by
  obtain ⟨a1, len, cap, rfl⟩ := okWide_slice hu hval
  obtain ⟨fuel, hf⟩ := h1
  rcases open_ints hu he hc hf with ⟨hcs, hx⟩ | ⟨a, len', cap', zs, hcs, _, hl, hm, hz, hx, hcell, hwz⟩
  · simp [Value.cells] at hcs
    obtain ⟨rfl, rfl, rfl⟩ := hcs
    exact ⟨[], Su.nil W⟩
  · simp [Value.cells] at hcs
    obtain ⟨rfl, rfl, rfl⟩ := hcs
    simp only [if_true] at hz
    have hlen : ((zs.take len).map Int.toNat).length = len := by simp; omega
    have hget : ∀ k, k < len → 0 ≤ zs.getD k 0 ∧ zs.getD k 0 ≤ 18446744073709551615 ∧ nu ((zs.take len).map Int.toNat) k = (zs.getD k 0).toNat := by
      intro k hk
      have hkz : k < zs.length := by omega
      have hg : zs.getD k 0 = zs[k] := by simp [List.getD, hkz]
      have hw := hwz zs[k] (List.getElem_mem hkz)
      have h2 : 0 ≤ zs[k] ∧ zs[k] ≤ 18446744073709551615 := by simpa [Lit.wf, IntKind.has, IntKind.min, IntKind.max, IntKind.signed, IntKind.bits] using hw
      rw [hg]
      exact ⟨h2.1, h2.2, by simp [nu, hk, hkz]⟩
    refine ⟨(zs.take len).map Int.toNat, some a, cap, by rw [hlen], fun k hk => ?_, fun h0 => ?_⟩
    · rw [hlen] at hk
      obtain ⟨g1, g2, g3⟩ := hget k hk
      rw [g3]; omega
    rw [hlen] at h0
    obtain ⟨ab, ao, spot⟩ := a
    have hspot : spot = none := by simpa [Addr.add] using World.cell?_spot (hcell 0 (by omega))
    subst hspot
    refine ⟨ab, ao, rfl, fun k hk => ?_⟩
    rw [hlen] at hk
    have hck := hcell k (by omega)
    rw [Addr.add_lit] at hck
    obtain ⟨g1, g2, g3⟩ := hget k hk
    rw [hck, g3]
    congr 2
    omega
end Go.Law
