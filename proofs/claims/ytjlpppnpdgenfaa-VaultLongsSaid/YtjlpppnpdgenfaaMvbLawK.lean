/- Opening a law's argument: keys, by value. -/
import Derived.Test.YtjlpppnpdgenfaaMvb19
import Derived.Test.YtjlpppnpdgenfaaMvb21
namespace Go.Law
open Go Go.RowKit Go.ChangeShapes Go.WideShapes Go.ChangeAt Go.Rw
section
variable {P : Program}
theorem open_bytesS {w : World} {r : Reach} {base : Nat} {t : TypeId} {n : Nat} {fs : Array Field} {e : TypeId} {v : Value} (hu : P.underlying t = some (.struct fs)) (hn : P.cellsOf t = n)
  (hc : ∃ ts, P.cellTypes P.depth t = some ts ∧ ts.all (· == e) = true) (he : P.underlying e = some (.int .u8)) (h : Value.okWide P w r base t v) : ∃ l : List UInt8, l.length = n ∧ v = .agg (bvs l) := by
 simp only [Value.okWide, hu] at h
 obtain ⟨cs, rfl, hsz, ts, hts, _, hcell⟩ := h
 obtain ⟨ts', hts', hall⟩ := hc
 obtain rfl : ts' = ts := Option.some.inj (hts'.symm.trans hts)
 have hv : ∀ (l : List Value), (∀ v ∈ l, ∃ b : UInt8, v = bv b) → ∃ bs : List UInt8, l = bs.map bv := by
  intro l
  induction l with
  | nil => intro _; exact ⟨[], rfl⟩
  | cons v l ih =>
   intro hl
   obtain ⟨b, rfl⟩ := hl v (by simp)
   obtain ⟨bs, rfl⟩ := ih fun v hv => hl v (by simp [hv])
   exact ⟨b :: bs, rfl⟩
 obtain ⟨bs, hbs⟩ := hv cs.toList (by
  intro v hv
  obtain ⟨i, hi⟩ := List.getElem?_of_mem hv
  obtain ⟨u, hu', hok⟩ := hcell i v (by simpa using hi)
  have hue : u = e := by
   have hm := List.mem_of_getElem? hu'
   simpa using List.all_eq_true.1 hall u hm
  subst hue
  have hok2 : Cell.ok P w r base u v := by
   unfold Cell.okWide at hok
   rw [he] at hok
   exact hok
  unfold Cell.ok at hok2
  rw [he] at hok2
  cases v <;> simp at hok2
  rename_i k x
  obtain ⟨rfl, hwf⟩ := hok2
  refine ⟨UInt8.ofInt x, ?_⟩
  have hx : 0 ≤ x ∧ x ≤ 255 := by simpa [IntKind.has, IntKind.min, IntKind.max, IntKind.signed, IntKind.bits] using hwf
  have : (n8 (UInt8.ofInt x) : Int) = x := by
   simp [n8, UInt8.ofInt]; omega
  rw [bv_eq, this])
 refine ⟨bs, ?_, ?_⟩
 ·have := congrArg List.length hbs
  simp at this
  omega
 ·congr 1
  apply Array.toList_inj.1
  rw [hbs]; simp [bvs]
end
end Go.Law
namespace Go.Proofs.Ytjlpppnpdgenfaa
open Go Go.RowKit Go.Rw
theorem keys_split (l : List UInt8) (h : l.length = 44) : ∃ key iv msk, key.length = 16 ∧ iv.length = 12 ∧ msk.length = 16 ∧ l = ksB key iv msk :=
 ⟨l.take 16, (l.drop 16).take 12, l.drop 28, by simp; omega, by simp; omega, by simp; omega, by
  unfold ksB
  rw [List.append_assoc, show l.drop 28 = (l.drop 16).drop 12 by rw [List.drop_drop], List.take_append_drop, List.take_append_drop]⟩
set_option maxRecDepth 100000 in
theorem open_keys {r : Reach} {w : World} {base : Nat} {v : Value} (h : Value.okWide Try.prog w r base 25 v) : ∃ key iv msk, key.length = 16 ∧ iv.length = 12 ∧ msk.length = 16 ∧ v = .agg (bvs (ksB key iv msk)) := by
 obtain ⟨l, hl, rfl⟩ := Law.open_bytesS Try.underlying25 (by kernel_rfl) ⟨List.replicate 44 5, by kernel_rfl, by kernel_rfl⟩ Try.underlying5 h
 obtain ⟨key, iv, msk, h1, h2, h3, rfl⟩ := keys_split l hl
 exact ⟨key, iv, msk, h1, h2, h3, rfl⟩
end Go.Proofs.Ytjlpppnpdgenfaa
