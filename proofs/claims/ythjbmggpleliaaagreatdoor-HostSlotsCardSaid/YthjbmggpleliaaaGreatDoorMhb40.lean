/- LibK; FrmL; FrmAll. -/
import Derived.Test.YthjbmggpleliaaaGreatDoorMhb33
import Derived.Test.YthjbmggpleliaaaGreatDoorMhb39
section
namespace Go.Rw
open Go Go.RowKit
theorem run_append_own2 {P : Program} (w : World) (base : Nat) (t ty e : TypeId) (i : TypeInfo) (z : Value) (size bytes : Nat) (ht : P.underlying t = some (.slice e)) (hi : P.info? e = some i) (hz : i.zero = some z)
  (hsize : i.size = size) (hby : i.bytes = bytes) (hzs : z.cells.size = size) (hsz : 0 < size)
  (v : Value) (n : Nat) (xs : List Value) (hown : w.ownsRow base e size v n xs)
  (a : Addr) (m c : Nat) (news : List Value) (hl : news.length = m * size) (hnews : ∀ j u, news[j]? = some u → w.cell? (a.add j) = some u) (h1 : ∀ u ∈ news, u.oneCell' = true)
  (h63 : n + m ≤ maxLen) (hbytes : (n + m) * bytes ≤ 140737488355328) (hbase : base ≤ w.heap.size) :
  ∃ v' w', (Builtin.append_ #[t, t] ty #[v, .slice (some a) m c]).run P w = .ok v' w' ∧ w'.ownsRow base e size v' (n + m) (xs ++ news) ∧ w.grownBy w' v.ownBlock ∧
   (v'.ownBlock = v.ownBlock ∨ ∀ k, v'.ownBlock = some k → w.heap.size ≤ k) := by
 obtain ⟨v', w', hr, h2, h3, _⟩ := run_append_own (P := P) w base t ty e i z size bytes ht hi hz hsize hby hzs hsz v n xs hown a m c news hl hnews h1 h63 hbytes hbase
 refine ⟨v', w', hr, h2, h3, ?_⟩
 rcases hown.2 with ⟨rfl, rfl⟩ | ⟨g, cap, cur, rfl, hbg, hg, hnc, hcm, hcs, htake⟩
 ·have hx : xs = [] := List.eq_nil_of_length_eq_zero (by simpa using hown.1)
  subst hx
  obtain ⟨v2, w2, hr2, k2, _, _⟩ := run_append_own (P := P) w w.heap.size t ty e i z size bytes ht hi hz hsize hby hzs hsz (.slice none 0 0) 0 [] (World.ownsRow_nil _ _ _ _) a m c news hl hnews h1 h63 hbytes (Nat.le_refl _)
  rw [hr] at hr2
  cases hr2
  exact .inr fun k hk => (k2.lt k hk).1
 ·by_cases hroom : n + m ≤ cap
  ·have hfit : n * i.size + news.length ≤ cur.size := by rw [hl, hcs, hsize, ← Nat.add_mul]; exact Nat.mul_le_mul_right _ hroom
   have hr2 := run_append_room (P := P) w t ty e i ht hi g n cap cur hg a m c news (by rw [hsize]; exact hl) hnews h1 hroom hfit
   rw [hr] at hr2
   cases hr2
   exact .inl rfl
  ·have holds : ∀ j u, xs[j]? = some u → w.cell? ((⟨g, 0, none⟩ : Addr).add j) = some u := hown.cells (g := g) rfl
   have hsmall : n + m ≤ 9223372036854775807 := by simp only [maxLen] at h63; omega
   have hr2 := run_append_grow (P := P) w t ty e i z ht hi hz ⟨g, 0, none⟩ n cap xs (by rw [hsize]; exact hown.1) holds a m c news (by rw [hsize]; exact hl) hnews (by omega) (by omega) (growslice_fits (by omega) (by rw [hby]; exact hbytes))
   rw [hr] at hr2
   cases hr2
   refine .inr fun k hk => ?_
   simp [Value.ownBlock] at hk
   omega
theorem app_si2 {P : Program} {w : World} {ops : Array Oper} {rest : List Oper} {o : Oper} {a : Act} {Q : Exit → Act → World → Prop} (hgd : o.guard = none) (s x : Operand) (t : TypeId)
  (ho : o.op = .call { callee := .builtin .append, args := #[s, x], argTypes := #[t, t] })
  (base : Nat) (e : TypeId) (i : TypeInfo) (ht : P.underlying t = some (.slice e)) (hi : P.info? e = some i) (hz : i.zero = some (.int .i64 0))
  (hsize : i.size = 1) (hby : i.bytes = 8)
  (v : Value) (l : List Int) (hs : a.eval s = v) (hown : w.ownsRow base e 1 v l.length (l.map iv))
  (b : Nat) (c : Nat) (m : List Int) (hx : a.eval x = .slice (some ⟨b, 0, none⟩) m.length c) (hu : ∀ k, k < m.length → w.cell? ⟨b, k, none⟩ = some (.int .i64 (ni m k))) (hlen : l.length + m.length ≤ 2000000) (hbase : base ≤ w.heap.size)
  (h : ∀ v' w', w'.ownsRow base e 1 v' (l ++ m).length ((l ++ m).map iv) → w.grownBy w' v.ownBlock → (v'.ownBlock = v.ownBlock ∨ ∀ k, v'.ownBlock = some k → w.heap.size ≤ k) → wpList P ops Q rest (a.put o.dst v') w') : wpList P ops Q (o :: rest) a w := by
 refine wpList_plain hgd fun K hK => ?_
 obtain ⟨v', w', hr, h2, h3, h4⟩ := run_append_own2 (P := P) w base t o.type e i (.int .i64 0) 1 8 ht hi hz hsize hby rfl (by decide) v l.length (l.map iv) hown ⟨b, 0, none⟩ m.length c (m.map iv) (by simp) (by
  intro j u hj
  have hjl : j < m.length := by have := (List.getElem?_eq_some_iff.1 hj).1; simpa using this
  rw [Addr.add_lit, Nat.zero_add, hu j hjl, ← hj]
  simp [ni, iv, hjl]) (map_iv_one m) (by unfold maxLen; omega) (by omega) hbase
 unfold Oper.wp execOp
 simp only [ho, resolve, invoke, builtin, Sem.run_bind, Sem.run_pure, Result.andThen_ok, List.map_toArray, List.map_cons, List.map_nil, hs, hx, hr]
 refine hK _ _ (h v' w' ?_ h3 h4)
 rw [List.length_append, List.map_append]
 exact h2
end Go.Rw

end
section
namespace Frm
open Go Go.RowKit Go.Rw Hdr
def Ap (g : Option Nat) (v : Value) : Prop := ∀ b off n cap, v = .slice (some ⟨b, off, none⟩) n cap → 0 < n → some b ≠ g
def FvA (w : World) (g : Option Nat) (A : Array Value) (f : Fr) : Prop :=
 ∃ vr vd vc vt, A = fvA f.k f.n f.d vr f.i f.o f.fin vd vc vt ∧ (Sr w vr f.rs ∧ Sl w vd f.dat ∧ Sl w vc f.cid ∧ Sl w vt f.tok) ∧ Ap g vr ∧ Ap g vd ∧ Ap g vc ∧ Ap g vt
theorem FvA.fv {w : World} {g : Option Nat} {A : Array Value} {f : Fr} (h : FvA w g A f) : Fv w (.agg A) f := by
 obtain ⟨vr, vd, vc, vt, rfl, ⟨h1, h2, h3, h4⟩, _⟩ := h
 exact ⟨vr, vd, vc, vt, rfl, h1, h2, h3, h4⟩
theorem FvA.size {w : World} {g : Option Nat} {A : Array Value} {f : Fr} (h : FvA w g A f) : A.size = 10 ∧ allOne A = true := by
 obtain ⟨vr, vd, vc, vt, rfl, ⟨⟨a1, c1, rfl, _⟩, ⟨a2, c2, rfl, _⟩, ⟨a3, c3, rfl, _⟩, ⟨a4, c4, rfl, _⟩⟩, _⟩ := h
 exact ⟨rfl, fvA_all _ _ _ _ _ _ _ _ _ _ _ _ _ _ _ _ _ _⟩
theorem FvA.below {w w' : World} {g : Option Nat} {A : Array Value} {f : Fr} (h : FvA w g A f) (hb : Below w.heap.size w w') : FvA w' g A f := by
 obtain ⟨vr, vd, vc, vt, rfl, ⟨h1, h2, h3, h4⟩, hg⟩ := h
 exact ⟨vr, vd, vc, vt, rfl, ⟨h1.below hb, h2.below hb, h3.below hb, h4.below hb⟩, hg⟩
theorem slGrown {w w' : World} {v : Value} {l : List UInt8} {r : Option Nat} (h : Sl w v l) (hg : w.grownBy w' r) (hne : Ap r v) : Sl w' v l := by
 obtain ⟨ao, cap, rfl, hc, hn, hp⟩ := h
 refine ⟨ao, cap, rfl, hc, hn, fun h0 => ?_⟩
 obtain ⟨b, off, rfl, hcell⟩ := hp h0
 exact ⟨b, off, rfl, fun k hk => by rw [← hcell k hk]; exact World.cell?_of_block (hg.block b (cell_lt (hcell k hk)) (hne b off _ _ rfl h0))⟩
theorem FvA.grown {w w' : World} {g : Option Nat} {A : Array Value} {f : Fr} (h : FvA w g A f) (hg : w.grownBy w' g) : FvA w' g A f := by
 obtain ⟨vr, vd, vc, vt, rfl, ⟨h1, h2, h3, h4⟩, p1, p2, p3, p4⟩ := h
 exact ⟨vr, vd, vc, vt, rfl, ⟨h1.grown hg p1, slGrown h2 hg p2, slGrown h3 hg p3, slGrown h4 hg p4⟩, p1, p2, p3, p4⟩
theorem ap_new {w : World} {v : Value} {g : Option Nat} (hg : ∀ k, g = some k → w.heap.size ≤ k) (hlt : ∀ b off n cap, v = .slice (some ⟨b, off, none⟩) n cap → 0 < n → b < w.heap.size) : Ap g v := by
 intro b off n cap e h0 e2
 have := hg b e2.symm
 have := hlt b off n cap e h0
 omega
theorem sl_lt {w : World} {v : Value} {l : List UInt8} (h : Sl w v l) : ∀ b off n cap, v = .slice (some ⟨b, off, none⟩) n cap → 0 < n → b < w.heap.size := by
 intro b off n cap e h0
 obtain ⟨ao, cap', e', _, _, hp⟩ := h
 rw [e] at e'
 cases e'
 obtain ⟨b', off', e2, hc⟩ := hp h0
 cases e2
 exact cell_lt (hc 0 h0)
theorem sr_lt {w : World} {v : Value} {l : List (Nat × Nat)} (h : Sr w v l) : ∀ b off n cap, v = .slice (some ⟨b, off, none⟩) n cap → 0 < n → b < w.heap.size := by
 intro b off n cap e h0
 obtain ⟨ao, cap', e', _, _, hp⟩ := h
 rw [e] at e'
 cases e'
 obtain ⟨b', off', e2, hc⟩ := hp h0
 cases e2
 exact cell_lt (hc 0 h0).1
theorem FvA.new {w : World} {g g' : Option Nat} {A : Array Value} {f : Fr} (h : FvA w g A f) (hg : ∀ k, g' = some k → w.heap.size ≤ k) : FvA w g' A f := by
 obtain ⟨vr, vd, vc, vt, rfl, ⟨h1, h2, h3, h4⟩, _⟩ := h
 exact ⟨vr, vd, vc, vt, rfl, ⟨h1, h2, h3, h4⟩, ap_new hg (sr_lt h1), ap_new hg (sl_lt h2), ap_new hg (sl_lt h3), ap_new hg (sl_lt h4)⟩
theorem FvA.turn {w w' : World} {g g' : Option Nat} {A : Array Value} {f : Fr} (h : FvA w g A f) (hb : w.grownBy w' g) (hg : ∀ k, g' = some k → w.heap.size ≤ k) : FvA w' g' A f := by
 obtain ⟨vr, vd, vc, vt, rfl, ⟨h1, h2, h3, h4⟩, p1, p2, p3, p4⟩ := h
 exact ⟨vr, vd, vc, vt, rfl, ⟨h1.grown hb p1, slGrown h2 hb p2, slGrown h3 hb p3, slGrown h4 hb p4⟩, ap_new hg (sr_lt h1), ap_new hg (sl_lt h2), ap_new hg (sl_lt h3), ap_new hg (sl_lt h4)⟩
theorem ap_own {w : World} {N n sz : Nat} {e : TypeId} {v : Value} {xs : List Value} {g : Option Nat} (h : w.ownsRow N e sz v n xs) (hg : ∀ k, g = some k → k < N) : Ap g v := by
 intro b off m cap e1 h0 e2
 have hk := (h.lt b (by rw [e1]; rfl)).1
 have := hg b e2.symm
 omega
theorem FO.fva {N : Nat} {tr tb : TypeId} {w : World} {v : Value} {f : Fr} {g : Option Nat} (h : FO N tr tb w v f) (hg : ∀ k, g = some k → k < N) : ∃ A, v = .agg A ∧ FvA w g A f := by
 obtain ⟨vr, vd, vc, vt, rfl, h1, h2, h3, h4⟩ := h
 exact ⟨_, rfl, vr, vd, vc, vt, rfl, ⟨Own.sr h1, Own.sl h2, Own.sl h3, Own.sl h4⟩, ap_own h1 hg, ap_own h2 hg, ap_own h3 hg, ap_own h4 hg⟩
def OwnFs (w : World) (N : Nat) (tF : TypeId) (v : Value) (fs : List Fr) : Prop :=
 ∃ As : List (Array Value), As.length = fs.length ∧ w.ownsRow N tF 10 v fs.length (As.flatMap Array.toList) ∧ ∀ k, k < fs.length → FvA w v.ownBlock (As.getD k #[]) (fs.getD k fr0)
theorem OwnFs.nil (w : World) (N : Nat) (tF : TypeId) : OwnFs w N tF (.slice none 0 0) [] := ⟨[], rfl, World.ownsRow_nil _ _ _ _, fun k hk => by simp at hk⟩
theorem OwnFs.below {w w' : World} {N : Nat} {tF : TypeId} {v : Value} {fs : List Fr} (h : OwnFs w N tF v fs) (hb : Below w.heap.size w w') : OwnFs w' N tF v fs := by
 obtain ⟨As, hl, ho, hf⟩ := h
 exact ⟨As, hl, ho.kept (row := none) ⟨hb.os, hb.tape, hb.output, hb.size, fun k hk _ => hb.block k hk⟩ (by cases v.ownBlock <;> simp), fun k hk => (hf k hk).below hb⟩
theorem OwnFs.lt {w : World} {N : Nat} {tF : TypeId} {v : Value} {fs : List Fr} (h : OwnFs w N tF v fs) : ∀ k, v.ownBlock = some k → N ≤ k ∧ k < w.heap.size := by
 obtain ⟨As, hl, ho, hf⟩ := h
 exact ho.lt
end Frm

end
section


end
