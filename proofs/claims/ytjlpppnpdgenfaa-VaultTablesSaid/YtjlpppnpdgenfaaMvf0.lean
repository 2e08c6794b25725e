/- LibI; LibJ; LibK; LawI. -/
import Derived.Test.YtjlpppnpdgenfaaMvb1
import Derived.Laws.AppendOwn
import Derived.Laws.AppendOwnNone
import Derived.Test.YtjlpppnpdgenfaaMvb19
section
namespace Go.Rw
open Go Go.RowKit
variable {P : Program}
def ni (l : List Int) (i : Nat) : Int := l[i]?.getD 0
def iv (x : Int) : Value := .int .i64 x
def ivs (l : List Int) : Array Value := (l.map iv).toArray
@[go_sem] theorem ivs_size (l : List Int) : (ivs l).size = l.length := by simp [ivs]
theorem oneCell_iv (x : Int) : (iv x).oneCell' = true := rfl
@[go_sem] theorem ivs_all (l : List Int) : allOne (ivs l) = true := by
 simp [allOne, ivs, oneCell_iv]
theorem ivs_getElem? (l : List Int) (k : Nat) : (ivs l)[k]? = if k < l.length then some (.int .i64 (ni l k)) else none := by
 by_cases h : k < l.length
 ·rw [if_pos h]; simp [ni, ivs, iv, h]
 ·rw [if_neg h]; simp [ivs]; omega
def Si (w : World) (v : Value) (l : List Int) : Prop :=
 ∃ ao cap, v = .slice ao l.length cap ∧ l.length ≤ cap ∧ (ao = none → cap = 0) ∧ (0 < l.length → ∃ b off, ao = some ⟨b, off, none⟩ ∧ ∀ k, k < l.length → w.cell? ⟨b, off + k, none⟩ = some (.int .i64 (ni l k)))
theorem Si.nil (w : World) : Si w (.slice none 0 0) [] := ⟨none, 0, rfl, Nat.le_refl _, fun _ => rfl, fun h => by simp at h⟩
theorem Si.below {w w' : World} {v : Value} {l : List Int} (h : Si w v l) (hb : Below w.heap.size w w') : Si w' v l := by
 obtain ⟨ao, cap, rfl, hc, hn, hp⟩ := h
 refine ⟨ao, cap, rfl, hc, hn, fun h0 => ?_⟩
 obtain ⟨b, off, rfl, hcell⟩ := hp h0
 exact ⟨b, off, rfl, fun k hk => by rw [← hcell k hk]; exact World.cell?_of_block (hb.block b (cell_lt (hcell k hk)))⟩
theorem Si.keep {w w' : World} {v : Value} {l : List Int} {B : Nat} (h : Si w v l) (hB : ∀ b off n cap, v = .slice (some ⟨b, off, none⟩) n cap → 0 < n → b < B) (hb : Below B w w') : Si w' v l := by
 obtain ⟨ao, cap, rfl, hc, hn, hp⟩ := h
 refine ⟨ao, cap, rfl, hc, hn, fun h0 => ?_⟩
 obtain ⟨b, off, rfl, hcell⟩ := hp h0
 exact ⟨b, off, rfl, fun k hk => by rw [← hcell k hk]; exact World.cell?_of_block (hb.block b (hB b off _ _ rfl h0))⟩
theorem Si.row {w : World} {g : Nat} {l : List Int} (h : row? w g = some (ivs l)) : Si w (.slice (some ⟨g, 0, none⟩) l.length l.length) l :=
 ⟨_, _, rfl, Nat.le_refl _, fun h => (by cases h), fun _ => ⟨g, 0, rfl, fun k hk => by rw [row?_cell h, ivs_getElem?, Nat.zero_add, if_pos hk]⟩⟩
theorem Own.si {w : World} {B : Nat} {e : TypeId} {v : Value} {l : List Int} (h : w.ownsRow B e 1 v l.length (l.map iv)) : Si w v l := by
 rcases h.2 with ⟨rfl, h0⟩ | ⟨g, cap, cur, rfl, hb, hg, hnc, hcm, hcs, htake⟩
 ·obtain rfl : l = [] := List.eq_nil_of_length_eq_zero h0
  exact Si.nil w
 ·refine ⟨_, cap, rfl, hnc, fun h => (by cases h), fun _ => ⟨g, 0, rfl, fun k hk => ?_⟩⟩
  rw [World.ownsRow.cellAt h (0 + k) (by omega)]
  simp [ni, hk, iv]
end Go.Rw

end
section
namespace Go.Rw
open Go Go.RowKit
theorem map_iv_one (l : List Int) : ∀ u ∈ l.map iv, u.oneCell' = true := by
 intro u hu
 obtain ⟨x, _, rfl⟩ := List.mem_map.1 hu
 exact oneCell_iv x
end Go.Rw

end
section
namespace Go.Rw
open Go Go.RowKit
theorem run_append_own2 {P : Program} (w : World) (base : Nat) (t ty e : TypeId) (i : TypeInfo) (z : Value) (size bytes : Nat) (ht : P.underlying t = some (.slice e)) (hi : P.info? e = some i) (hz : i.zero = some z)
  (hsize : i.size = size) (hby : i.bytes = bytes) (hzs : z.cells.size = size) (hsz : 0 < size)
  (v : Value) (n : Nat) (xs : List Value) (hown : w.ownsRow base e size v n xs)
  (a : Addr) (m c : Nat) (news : List Value) (hl : news.length = m * size) (hnews : ∀ j u, news[j]? = some u → w.cell? (a.add j) = some u) (h1 : ∀ u ∈ news, u.oneCell' = true)
  (h63 : n + m ≤ maxLen) (hbytes : (n + m) * bytes ≤ 140737488355328) (hbase : base ≤ w.heap.size) :
  ∃ v' w', (Builtin.append_ #[t, t] ty #[v, .slice (some a) m c]).run P w = .ok v' w' ∧ w'.ownsRow base e size v' (n + m) (xs ++ news) ∧ w.grownBy w' v.ownBlock ∧
   (v'.ownBlock = v.ownBlock ∨ ∀ k, v'.ownBlock = some k → w.heap.size ≤ k) := by
 obtain ⟨v', w', hr, h2, h3, _⟩ := run_append_own (P := P) w base t ty e i z size bytes ht hi hz hsize hby hzs hsz v n xs hown a m c news hl hnews h1 h63 hbytes hbase
 refine ⟨v', w', hr, h2, h3, ?_⟩
 rcases hown.2 with ⟨rfl, rfl⟩ | ⟨g, cap, cur, rfl, hbg, hg, hnc, hcm, hcs, htake⟩
 ·have hx : xs = [] := List.eq_nil_of_length_eq_zero (by simpa using hown.1)
  subst hx
  obtain ⟨v2, w2, hr2, k2, _, _⟩ := run_append_own (P := P) w w.heap.size t ty e i z size bytes ht hi hz hsize hby hzs hsz (.slice none 0 0) 0 [] (World.ownsRow_nil _ _ _ _) a m c news hl hnews h1 h63 hbytes (Nat.le_refl _)
  rw [hr] at hr2
  cases hr2
  exact .inr fun k hk => (k2.lt k hk).1
 ·by_cases hroom : n + m ≤ cap
  ·have hfit : n * i.size + news.length ≤ cur.size := by rw [hl, hcs, hsize, ← Nat.add_mul]; exact Nat.mul_le_mul_right _ hroom
   have hr2 := run_append_room (P := P) w t ty e i ht hi g n cap cur hg a m c news (by rw [hsize]; exact hl) hnews h1 hroom hfit
   rw [hr] at hr2
   cases hr2
   exact .inl rfl
  ·have holds : ∀ j u, xs[j]? = some u → w.cell? ((⟨g, 0, none⟩ : Addr).add j) = some u := hown.cells (g := g) rfl
   have hsmall : n + m ≤ 9223372036854775807 := by simp only [maxLen] at h63; omega
   have hr2 := run_append_grow (P := P) w t ty e i z ht hi hz ⟨g, 0, none⟩ n cap xs (by rw [hsize]; exact hown.1) holds a m c news (by rw [hsize]; exact hl) hnews (by omega) (by omega) (growslice_fits (by omega) (by rw [hby]; exact hbytes))
   rw [hr] at hr2
   cases hr2
   refine .inr fun k hk => ?_
   simp [Value.ownBlock] at hk
   omega
theorem app_si2 {P : Program} {w : World} {ops : Array Oper} {rest : List Oper} {o : Oper} {a : Act} {Q : Exit → Act → World → Prop} (hgd : o.guard = none) (s x : Operand) (t : TypeId)
  (ho : o.op = .call { callee := .builtin .append, args := #[s, x], argTypes := #[t, t] })
  (base : Nat) (e : TypeId) (i : TypeInfo) (ht : P.underlying t = some (.slice e)) (hi : P.info? e = some i) (hz : i.zero = some (.int .i64 0))
  (hsize : i.size = 1) (hby : i.bytes = 8)
  (v : Value) (l : List Int) (hs : a.eval s = v) (hown : w.ownsRow base e 1 v l.length (l.map iv))
  (b : Nat) (c : Nat) (m : List Int) (hx : a.eval x = .slice (some ⟨b, 0, none⟩) m.length c) (hu : ∀ k, k < m.length → w.cell? ⟨b, k, none⟩ = some (.int .i64 (ni m k))) (hlen : l.length + m.length ≤ 2000000) (hbase : base ≤ w.heap.size)
  (h : ∀ v' w', w'.ownsRow base e 1 v' (l ++ m).length ((l ++ m).map iv) → w.grownBy w' v.ownBlock → (v'.ownBlock = v.ownBlock ∨ ∀ k, v'.ownBlock = some k → w.heap.size ≤ k) → wpList P ops Q rest (a.put o.dst v') w') : wpList P ops Q (o :: rest) a w := by
 refine wpList_plain hgd fun K hK => ?_
 obtain ⟨v', w', hr, h2, h3, h4⟩ := run_append_own2 (P := P) w base t o.type e i (.int .i64 0) 1 8 ht hi hz hsize hby rfl (by decide) v l.length (l.map iv) hown ⟨b, 0, none⟩ m.length c (m.map iv) (by simp) (by
  intro j u hj
  have hjl : j < m.length := by have := (List.getElem?_eq_some_iff.1 hj).1; simpa using this
  rw [Addr.add_lit, Nat.zero_add, hu j hjl, ← hj]
  simp [ni, iv, hjl]) (map_iv_one m) (by unfold maxLen; omega) (by omega) hbase
 unfold Oper.wp execOp
 simp only [ho, resolve, invoke, builtin, Sem.run_bind, Sem.run_pure, Result.andThen_ok, List.map_toArray, List.map_cons, List.map_nil, hs, hx, hr]
 refine hK _ _ (h v' w' ?_ h3 h4)
 rw [List.length_append, List.map_append]
 exact h2
end Go.Rw

end
section
namespace Go.Law
open Go Go.RowKit Go.ChangeShapes Go.WideShapes Go.ChangeAt Go.Rw
section
variable {P : Program} {H : Type} {enc : TypeId × Value → H}
theorem open_islice {W : World} {base : Nat} {t e : TypeId} {v : Value} {d : DataW H} {p : List MemPlace} (hu : P.underlying t = some (.slice e)) (he : P.underlying e = some (.int .i64)) (hc : P.cellsOf e = 1)
  (hval : Value.okWide P W .any base t v) (h1 : DataW.Trod enc P W 0 (fun _ => true) true t v d p) : ∃ l : List Int, Si W v l := by
 obtain ⟨a1, len, cap, rfl⟩ := okWide_slice hu hval
 obtain ⟨fuel, hf⟩ := h1
 rcases open_ints hu he hc hf with ⟨hcs, hx⟩ | ⟨a, len', cap', zs, hcs, _, hl, hm, hz, hx, hcell, hwz⟩
 ·simp [Value.cells] at hcs
  obtain ⟨rfl, rfl, rfl⟩ := hcs
  exact ⟨[], Si.nil W⟩
 ·simp [Value.cells] at hcs
  obtain ⟨rfl, rfl, rfl⟩ := hcs
  simp only [if_true] at hz
  have hlen : (zs.take len).length = len := by simp; omega
  refine ⟨zs.take len, some a, cap, by rw [hlen], by rw [hlen]; exact hl, fun h => (by cases h), fun h0 => ?_⟩
  rw [hlen] at h0
  obtain ⟨ab, ao, spot⟩ := a
  have hspot : spot = none := by simpa [Addr.add] using World.cell?_spot (hcell 0 (by omega))
  subst hspot
  refine ⟨ab, ao, rfl, fun k hk => ?_⟩
  rw [hlen] at hk
  have hck := hcell k (by omega)
  rw [Addr.add_lit] at hck
  rw [hck]
  have e1 : zs.getD k 0 = ni (zs.take len) k := by
   simp [List.getD, ni, hk]
  rw [e1]
end
end Go.Law

end
