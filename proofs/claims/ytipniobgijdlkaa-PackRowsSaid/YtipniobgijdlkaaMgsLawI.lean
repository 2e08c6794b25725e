/- Opening a law's argument: a slice of ints, an array of ints. Over any program. -/
import Derived.Test.YtipniobgijdlkaaMgs3
import Derived.Test.YtipniobgijdlkaaMgs8
namespace Go.Law
open Go Go.RowKit Go.ChangeShapes Go.WideShapes Go.ChangeAt Go.Rw
section
variable {P : Program} {H : Type} {enc : TypeId × Value → H}
theorem open_islice {W : World} {base : Nat} {t e : TypeId} {v : Value} {d : DataW H} {p : List MemPlace} (hu : P.underlying t = some (.slice e)) (he : P.underlying e = some (.int .i64)) (hc : P.cellsOf e = 1)
    (hval : Value.okWide P W .any base t v) (h1 : DataW.Trod enc P W 0 (fun _ => true) true t v d p) : ∃ l : List Int, Si W v l := by
  obtain ⟨a1, len, cap, rfl⟩ := okWide_slice hu hval
  obtain ⟨fuel, hf⟩ := h1
  rcases open_ints hu he hc hf with ⟨hcs, hx⟩ | ⟨a, len', cap', zs, hcs, _, hl, hm, hz, hx, hcell, hwz⟩
  · simp [Value.cells] at hcs
    obtain ⟨rfl, rfl, rfl⟩ := hcs
    exact ⟨[], Si.nil W⟩
  · simp [Value.cells] at hcs
    obtain ⟨rfl, rfl, rfl⟩ := hcs
    simp only [if_true] at hz
    have hlen : (zs.take len).length = len := by simp; omega
    refine ⟨zs.take len, some a, cap, by rw [hlen], by rw [hlen]; exact hl, fun h => (by cases h), fun h0 => ?_⟩
    rw [hlen] at h0
    obtain ⟨ab, ao, spot⟩ := a
    have hspot : spot = none := by simpa [Addr.add] using World.cell?_spot (hcell 0 (by omega))
    subst hspot
    refine ⟨ab, ao, rfl, fun k hk => ?_⟩
    rw [hlen] at hk
    have hck := hcell k (by omega)
    rw [Addr.add_lit] at hck
    rw [hck]
    have e1 : zs.getD k 0 = ni (zs.take len) k := by
      simp [List.getD, ni, hk]
    rw [e1]
theorem open_iarr {w : World} {r : Reach} {base : Nat} {t : TypeId} {n : Nat} {e : TypeId} {v : Value} (hu : P.underlying t = some (.array n e)) (hn : P.cellsOf t = n)
    (hc : ∃ ts, P.cellTypes P.depth t = some ts ∧ ts.all (· == e) = true) (he : P.underlying e = some (.int .i64)) (h : Value.okWide P w r base t v) : ∃ l : List Int, l.length = n ∧ v = .agg (ivs l) := by
  simp only [Value.okWide, hu] at h
  obtain ⟨cs, rfl, hsz, ts, hts, _, hcell⟩ := h
  obtain ⟨ts', hts', hall⟩ := hc
  obtain rfl : ts' = ts := Option.some.inj (hts'.symm.trans hts)
  have hv : ∀ (l : List Value), (∀ v ∈ l, ∃ b : Int, v = iv b) → ∃ bs : List Int, l = bs.map iv := by
    intro l
    induction l with
    | nil => intro _; exact ⟨[], rfl⟩
    | cons v l ih =>
      intro hl
      obtain ⟨b, rfl⟩ := hl v (by simp)
      obtain ⟨bs, rfl⟩ := ih fun v hv => hl v (by simp [hv])
      exact ⟨b :: bs, rfl⟩
  obtain ⟨bs, hbs⟩ := hv cs.toList (by
    intro v hv
    obtain ⟨i, hi⟩ := List.getElem?_of_mem hv
    obtain ⟨u, hu', hok⟩ := hcell i v (by simpa using hi)
    have hue : u = e := by
      have hm := List.mem_of_getElem? hu'
      simpa using List.all_eq_true.1 hall u hm
    subst hue
    have hok2 : Cell.ok P w r base u v := by
      unfold Cell.okWide at hok
      rw [he] at hok
      exact hok
    unfold Cell.ok at hok2
    rw [he] at hok2
    cases v <;> simp at hok2
    rename_i k x
    obtain ⟨rfl, _⟩ := hok2
    exact ⟨x, rfl⟩)
  refine ⟨bs, ?_, ?_⟩
  · have := congrArg List.length hbs
    simp at this
    omega
  · congr 1
    apply Array.toList_inj.1
    rw [hbs]; simp [ivs]
end
end Go.Law
