/- Arrays held against one another by == : rows of bytes. Over any program. -/
import Derived.Test.YtipniobgijdlkaaLibB
namespace Go.Rw
open Go Go.RowKit
variable {P : Program}

theorem run_equalIn_row {t e : TypeId} {len n : Nat} (d : Nat) (xs ys : Array Value) (E : Nat → Bool) (hu : P.underlying t = some (.array len e)) (hn : (P.info? e).map (·.size) = some n)
    (h : ∀ i, i < len → ∀ w, ∃ a b, (part e xs (i * n)).run P w = .ok a w ∧ (part e ys (i * n)).run P w = .ok b w ∧ (Op.equalIn d e a b).run P w = .ok (E i) w) (w : World) :
    (Op.equalIn (d + 1) t (.agg xs) (.agg ys)).run P w = .ok ((List.range len).all E) w := by
  have hs : ∀ w, (sizeOf e).run P w = .ok n w := fun w => by
    cases hq : P.info? e with
    | none => simp [hq] at hn
    | some i => simp [hq] at hn; simp [sizeOf, typeInfo, hq, hn]
  have hsz : Std.Legacy.Range.size [:len] = len := by simp [Std.Legacy.Range.size]
  simp only [Op.equalIn, Sem.run_bind, run_underlying hu, Result.andThen_ok, hs, Std.Legacy.Range.forIn_eq_forIn_range', hsz, List.range_eq_range']
  have hm : ∀ i ∈ List.range' 0 len 1, i < len := fun i hi => by simpa using hi
  generalize List.range' 0 len 1 = l at *
  induction l with
  | nil => simp
  | cons i l ih =>
    obtain ⟨a, b, h1, h2, h3⟩ := h i (hm i (by simp)) w
    simp only [List.forIn_cons, Sem.run_bind, h1, h2, h3, Result.andThen_ok, List.all_cons]
    cases E i
    · simp only [Bool.not_false, if_true, Sem.run_pure, Result.andThen_ok, Bool.false_and]
    · simp only [Bool.not_true, Bool.false_eq_true, if_false, Sem.run_pure, Result.andThen_ok, Bool.true_and]
      exact ih fun j hj => hm j (by simp [hj])

theorem part_cell {e : TypeId} {k : IntKind} (hu : P.underlying e = some (.int k)) (xs : Array Value) (o : Nat) (v : Value) (h : xs[o]? = some v) (w : World) : (part e xs o).run P w = .ok v w := by
  have ha : (isAgg e).run P w = .ok false w := by unfold isAgg; rw [Sem.run_bind, run_underlying hu w]; rfl
  unfold part
  rw [Sem.run_bind, ha]
  simp only [Result.andThen_ok, Bool.false_eq_true, if_false, h, Sem.run_pure]
theorem all_beq (a b : List UInt8) (n : Nat) (ha : a.length = n) (hb : b.length = n) : ((List.range n).all fun i => nth a i == nth b i) = (a == b) := by
  rw [Bool.eq_iff_iff]
  simp only [List.all_eq_true, List.mem_range, beq_iff_eq]
  constructor
  · intro h
    apply List.ext_getElem (by omega)
    intro i h1 h2
    have := h i (by omega)
    simpa [nth, h1, h2] using this
  · rintro rfl i _; rfl
/-- Arrays of bytes. -/
theorem run_equalIn_bytes {t e : TypeId} {n : Nat} (d : Nat) (hu : P.underlying t = some (.array n e)) (he : P.underlying e = some (.int .u8)) (hn : (P.info? e).map (·.size) = some 1)
    (a b : List UInt8) (ha : a.length = n) (hb : b.length = n) (w : World) : (Op.equalIn (d + 2) t (.agg (bvs a)) (.agg (bvs b))).run P w = .ok (a == b) w := by
  rw [run_equalIn_row (d + 1) _ _ (fun i => nth a i == nth b i) hu hn ?_ w, all_beq a b n ha hb]
  intro i hi w
  have e1 : (bvs a)[i * 1]? = some (.int .u8 (n8 (nth a i) : Nat)) := by rw [Nat.mul_one, bvs_getElem?, if_pos (by omega)]
  have e2 : (bvs b)[i * 1]? = some (.int .u8 (n8 (nth b i) : Nat)) := by rw [Nat.mul_one, bvs_getElem?, if_pos (by omega)]
  exact ⟨_, _, part_cell he _ _ _ e1 w, part_cell he _ _ _ e2 w, by rw [run_equalIn_int w d e .u8 .u8 _ _ he, n8_ibeq]⟩
theorem part_row {e : TypeId} {m : Nat} (A : Agg P e m) (xs : Array Value) (o : Nat) (w : World) : (part e xs o).run P w = .ok (.agg (xs.extract o (o + m))) w := by
  obtain ⟨dd, hu, hd⟩ := A.und
  have ha : (isAgg e).run P w = .ok true w := by
    unfold isAgg; rw [Sem.run_bind, run_underlying hu w]
    cases dd <;> simp_all [TypeDesc.isRow]
  have hs : (sizeOf e).run P w = .ok m w := by
    have := A.size
    cases hq : P.info? e with
    | none => simp [hq] at this
    | some i => simp [hq] at this; simp [sizeOf, typeInfo, hq, this]
  unfold part
  rw [Sem.run_bind, ha]
  simp only [Result.andThen_ok, if_true]
  rw [Sem.run_bind, hs]
  simp only [Result.andThen_ok, Sem.run_pure]
/-- Arrays of arrays of bytes. -/
theorem run_equalIn_bytes2 {t r e : TypeId} {n m : Nat} (d : Nat) (hu : P.underlying t = some (.array n r)) (hr : P.underlying r = some (.array m e)) (A : Agg P r m) (he : P.underlying e = some (.int .u8)) (hn : (P.info? e).map (·.size) = some 1)
    (a b : List UInt8) (ha : a.length = n * m) (hb : b.length = n * m) (w : World) : (Op.equalIn (d + 3) t (.agg (bvs a)) (.agg (bvs b))).run P w = .ok (a == b) w := by
  rw [run_equalIn_row (d + 2) _ _ (fun i => (a.take (i * m + m)).drop (i * m) == (b.take (i * m + m)).drop (i * m)) hu A.size ?_ w]
  · congr 1
    rw [Bool.eq_iff_iff]
    simp only [List.all_eq_true, List.mem_range, beq_iff_eq]
    constructor
    · intro h
      apply List.ext_getElem (by omega)
      intro p h1 h2
      rcases Nat.eq_zero_or_pos m with hm | hm
      · subst hm; omega
      have hq : p / m < n := Nat.div_lt_of_lt_mul (by rw [Nat.mul_comm]; omega)
      have e1 := congrArg (fun l => l[p % m]?) (h (p / m) hq)
      have hp : p / m * m + p % m = p := by rw [Nat.mul_comm]; exact Nat.div_add_mod p m
      have hpm := Nat.mod_lt p hm
      simp only [List.getElem?_drop, List.getElem?_take, hp] at e1
      rw [if_pos (by omega), if_pos (by omega)] at e1
      simpa [h1, h2] using e1
    · rintro rfl i _; rfl
  · intro i hi w
    have hle : i * m + m ≤ n * m := by
      have := Nat.mul_le_mul_right m (show i + 1 ≤ n by omega)
      rw [Nat.add_mul] at this; omega
    exact ⟨_, _, part_row A _ _ w, part_row A _ _ w, by
      rw [bvs_extract, bvs_extract]
      exact run_equalIn_bytes d hr he hn _ _ (by simp; omega) (by simp; omega) w⟩
end Go.Rw
