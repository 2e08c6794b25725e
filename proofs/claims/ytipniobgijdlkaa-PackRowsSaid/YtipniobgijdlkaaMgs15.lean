/- LibK; FrmL; FrmU2. -/
import Derived.Test.YtipniobgijdlkaaMgs8
import Derived.Test.YtipniobgijdlkaaMgsFrmW5
import Derived.Test.YtipniobgijdlkaaMgs11
section
/- Ints put behind those of an owned slice: the block is the same, or a new one. Over any program. -/
namespace Go.Rw
open Go Go.RowKit
theorem run_append_own2 {P : Program} (w : World) (base : Nat) (t ty e : TypeId) (i : TypeInfo) (z : Value) (size bytes : Nat) (ht : P.underlying t = some (.slice e)) (hi : P.info? e = some i) (hz : i.zero = some z)
    (hsize : i.size = size) (hby : i.bytes = bytes) (hzs : z.cells.size = size) (hsz : 0 < size)
    (v : Value) (n : Nat) (xs : List Value) (hown : w.ownsRow base e size v n xs)
    (a : Addr) (m c : Nat) (news : List Value) (hl : news.length = m * size) (hnews : ∀ j u, news[j]? = some u → w.cell? (a.add j) = some u) (h1 : ∀ u ∈ news, u.oneCell' = true)
    (h63 : n + m ≤ maxLen) (hbytes : (n + m) * bytes ≤ 140737488355328) (hbase : base ≤ w.heap.size) :
    ∃ v' w', (Builtin.append_ #[t, t] ty #[v, .slice (some a) m c]).run P w = .ok v' w' ∧ w'.ownsRow base e size v' (n + m) (xs ++ news) ∧ w.grownBy w' v.ownBlock ∧
      (v'.ownBlock = v.ownBlock ∨ ∀ k, v'.ownBlock = some k → w.heap.size ≤ k) := by
  obtain ⟨v', w', hr, h2, h3, _⟩ := run_append_own (P := P) w base t ty e i z size bytes ht hi hz hsize hby hzs hsz v n xs hown a m c news hl hnews h1 h63 hbytes hbase
  refine ⟨v', w', hr, h2, h3, ?_⟩
  rcases hown.2 with ⟨rfl, rfl⟩ | ⟨g, cap, cur, rfl, hbg, hg, hnc, hcm, hcs, htake⟩
  · have hx : xs = [] := List.eq_nil_of_length_eq_zero (by simpa using hown.1)
    subst hx
    obtain ⟨v2, w2, hr2, k2, _, _⟩ := run_append_own (P := P) w w.heap.size t ty e i z size bytes ht hi hz hsize hby hzs hsz (.slice none 0 0) 0 [] (World.ownsRow_nil _ _ _ _) a m c news hl hnews h1 h63 hbytes (Nat.le_refl _)
    rw [hr] at hr2
    cases hr2
    exact .inr fun k hk => (k2.lt k hk).1
  · by_cases hroom : n + m ≤ cap
    · have hfit : n * i.size + news.length ≤ cur.size := by rw [hl, hcs, hsize, ← Nat.add_mul]; exact Nat.mul_le_mul_right _ hroom
      have hr2 := run_append_room (P := P) w t ty e i ht hi g n cap cur hg a m c news (by rw [hsize]; exact hl) hnews h1 hroom hfit
      rw [hr] at hr2
      cases hr2
      exact .inl rfl
    · have holds : ∀ j u, xs[j]? = some u → w.cell? ((⟨g, 0, none⟩ : Addr).add j) = some u := hown.cells (g := g) rfl
      have hsmall : n + m ≤ 9223372036854775807 := by simp only [maxLen] at h63; omega
      have hr2 := run_append_grow (P := P) w t ty e i z ht hi hz ⟨g, 0, none⟩ n cap xs (by rw [hsize]; exact hown.1) holds a m c news (by rw [hsize]; exact hl) hnews (by omega) (by omega) (growslice_fits (by omega) (by rw [hby]; exact hbytes))
      rw [hr] at hr2
      cases hr2
      refine .inr fun k hk => ?_
      simp [Value.ownBlock] at hk
      omega
/-- Appending what a slice reads to an owned slice. -/
theorem app_si2 {P : Program} {w : World} {ops : Array Oper} {rest : List Oper} {o : Oper} {a : Act} {Q : Exit → Act → World → Prop} (hgd : o.guard = none) (s x : Operand) (t : TypeId)
    (ho : o.op = .call { callee := .builtin .append, args := #[s, x], argTypes := #[t, t] })
    (base : Nat) (e : TypeId) (i : TypeInfo) (ht : P.underlying t = some (.slice e)) (hi : P.info? e = some i) (hz : i.zero = some (.int .i64 0))
    (hsize : i.size = 1) (hby : i.bytes = 8)
    (v : Value) (l : List Int) (hs : a.eval s = v) (hown : w.ownsRow base e 1 v l.length (l.map iv))
    (b : Nat) (c : Nat) (m : List Int) (hx : a.eval x = .slice (some ⟨b, 0, none⟩) m.length c) (hu : ∀ k, k < m.length → w.cell? ⟨b, k, none⟩ = some (.int .i64 (ni m k))) (hlen : l.length + m.length ≤ 2000000) (hbase : base ≤ w.heap.size)
    (h : ∀ v' w', w'.ownsRow base e 1 v' (l ++ m).length ((l ++ m).map iv) → w.grownBy w' v.ownBlock → (v'.ownBlock = v.ownBlock ∨ ∀ k, v'.ownBlock = some k → w.heap.size ≤ k) → wpList P ops Q rest (a.put o.dst v') w') : wpList P ops Q (o :: rest) a w := by
  refine wpList_plain hgd fun K hK => ?_
  obtain ⟨v', w', hr, h2, h3, h4⟩ := run_append_own2 (P := P) w base t o.type e i (.int .i64 0) 1 8 ht hi hz hsize hby rfl (by decide) v l.length (l.map iv) hown ⟨b, 0, none⟩ m.length c (m.map iv) (by simp) (by
    intro j u hj
    have hjl : j < m.length := by have := (List.getElem?_eq_some_iff.1 hj).1; simpa using this
    rw [Addr.add_lit, Nat.zero_add, hu j hjl, ← hj]
    simp [ni, iv, hjl]) (map_iv_one m) (by unfold maxLen; omega) (by omega) hbase
  unfold Oper.wp execOp
  simp only [ho, resolve, invoke, builtin, Sem.run_bind, Sem.run_pure, Result.andThen_ok, List.map_toArray, List.map_cons, List.map_nil, hs, hx, hr]
  refine hK _ _ (h v' w' ?_ h3 h4)
  rw [List.length_append, List.map_append]
  exact h2
end Go.Rw
end
section
/- Slices of frames that a call makes itself; and the frames of bytes, in plain words. -/
namespace Frm
open Go Go.RowKit Go.Rw Hdr
/-- A slice that lies in no cell of the block g. -/
def Ap (g : Option Nat) (v : Value) : Prop := ∀ b off n cap, v = .slice (some ⟨b, off, none⟩) n cap → 0 < n → some b ≠ g
/-- Ten cells read a frame; nothing of it lies in the block g. -/
def FvA (w : World) (g : Option Nat) (A : Array Value) (f : Fr) : Prop :=
  ∃ vr vd vc vt, A = fvA f.k f.n f.d vr f.i f.o f.fin vd vc vt ∧ (Sr w vr f.rs ∧ Sl w vd f.dat ∧ Sl w vc f.cid ∧ Sl w vt f.tok) ∧ Ap g vr ∧ Ap g vd ∧ Ap g vc ∧ Ap g vt
theorem FvA.fv {w : World} {g : Option Nat} {A : Array Value} {f : Fr} (h : FvA w g A f) : Fv w (.agg A) f := by
  obtain ⟨vr, vd, vc, vt, rfl, ⟨h1, h2, h3, h4⟩, _⟩ := h
  exact ⟨vr, vd, vc, vt, rfl, h1, h2, h3, h4⟩
theorem FvA.size {w : World} {g : Option Nat} {A : Array Value} {f : Fr} (h : FvA w g A f) : A.size = 10 ∧ allOne A = true := by
  obtain ⟨vr, vd, vc, vt, rfl, ⟨⟨a1, c1, rfl, _⟩, ⟨a2, c2, rfl, _⟩, ⟨a3, c3, rfl, _⟩, ⟨a4, c4, rfl, _⟩⟩, _⟩ := h
  exact ⟨rfl, fvA_all _ _ _ _ _ _ _ _ _ _ _ _ _ _ _ _ _ _⟩
theorem FvA.below {w w' : World} {g : Option Nat} {A : Array Value} {f : Fr} (h : FvA w g A f) (hb : Below w.heap.size w w') : FvA w' g A f := by
  obtain ⟨vr, vd, vc, vt, rfl, ⟨h1, h2, h3, h4⟩, hg⟩ := h
  exact ⟨vr, vd, vc, vt, rfl, ⟨h1.below hb, h2.below hb, h3.below hb, h4.below hb⟩, hg⟩
theorem slGrown {w w' : World} {v : Value} {l : List UInt8} {r : Option Nat} (h : Sl w v l) (hg : w.grownBy w' r) (hne : Ap r v) : Sl w' v l := by
  obtain ⟨ao, cap, rfl, hc, hn, hp⟩ := h
  refine ⟨ao, cap, rfl, hc, hn, fun h0 => ?_⟩
  obtain ⟨b, off, rfl, hcell⟩ := hp h0
  exact ⟨b, off, rfl, fun k hk => by rw [← hcell k hk]; exact World.cell?_of_block (hg.block b (cell_lt (hcell k hk)) (hne b off _ _ rfl h0))⟩
theorem FvA.grown {w w' : World} {g : Option Nat} {A : Array Value} {f : Fr} (h : FvA w g A f) (hg : w.grownBy w' g) : FvA w' g A f := by
  obtain ⟨vr, vd, vc, vt, rfl, ⟨h1, h2, h3, h4⟩, p1, p2, p3, p4⟩ := h
  exact ⟨vr, vd, vc, vt, rfl, ⟨h1.grown hg p1, slGrown h2 hg p2, slGrown h3 hg p3, slGrown h4 hg p4⟩, p1, p2, p3, p4⟩
theorem ap_new {w : World} {v : Value} {g : Option Nat} (hg : ∀ k, g = some k → w.heap.size ≤ k) (hlt : ∀ b off n cap, v = .slice (some ⟨b, off, none⟩) n cap → 0 < n → b < w.heap.size) : Ap g v := by
  intro b off n cap e h0 e2
  have := hg b e2.symm
  have := hlt b off n cap e h0
  omega
theorem sl_lt {w : World} {v : Value} {l : List UInt8} (h : Sl w v l) : ∀ b off n cap, v = .slice (some ⟨b, off, none⟩) n cap → 0 < n → b < w.heap.size := by
  intro b off n cap e h0
  obtain ⟨ao, cap', e', _, _, hp⟩ := h
  rw [e] at e'
  cases e'
  obtain ⟨b', off', e2, hc⟩ := hp h0
  cases e2
  exact cell_lt (hc 0 h0)
theorem sr_lt {w : World} {v : Value} {l : List (Nat × Nat)} (h : Sr w v l) : ∀ b off n cap, v = .slice (some ⟨b, off, none⟩) n cap → 0 < n → b < w.heap.size := by
  intro b off n cap e h0
  obtain ⟨ao, cap', e', _, _, hp⟩ := h
  rw [e] at e'
  cases e'
  obtain ⟨b', off', e2, hc⟩ := hp h0
  cases e2
  exact cell_lt (hc 0 h0).1
theorem FvA.new {w : World} {g g' : Option Nat} {A : Array Value} {f : Fr} (h : FvA w g A f) (hg : ∀ k, g' = some k → w.heap.size ≤ k) : FvA w g' A f := by
  obtain ⟨vr, vd, vc, vt, rfl, ⟨h1, h2, h3, h4⟩, _⟩ := h
  exact ⟨vr, vd, vc, vt, rfl, ⟨h1, h2, h3, h4⟩, ap_new hg (sr_lt h1), ap_new hg (sl_lt h2), ap_new hg (sl_lt h3), ap_new hg (sl_lt h4)⟩
theorem FvA.turn {w w' : World} {g g' : Option Nat} {A : Array Value} {f : Fr} (h : FvA w g A f) (hb : w.grownBy w' g) (hg : ∀ k, g' = some k → w.heap.size ≤ k) : FvA w' g' A f := by
  obtain ⟨vr, vd, vc, vt, rfl, ⟨h1, h2, h3, h4⟩, p1, p2, p3, p4⟩ := h
  exact ⟨vr, vd, vc, vt, rfl, ⟨h1.grown hb p1, slGrown h2 hb p2, slGrown h3 hb p3, slGrown h4 hb p4⟩, ap_new hg (sr_lt h1), ap_new hg (sl_lt h2), ap_new hg (sl_lt h3), ap_new hg (sl_lt h4)⟩
theorem ap_own {w : World} {N n sz : Nat} {e : TypeId} {v : Value} {xs : List Value} {g : Option Nat} (h : w.ownsRow N e sz v n xs) (hg : ∀ k, g = some k → k < N) : Ap g v := by
  intro b off m cap e1 h0 e2
  have hk := (h.lt b (by rw [e1]; rfl)).1
  have := hg b e2.symm
  omega
theorem FO.fva {N : Nat} {tr tb : TypeId} {w : World} {v : Value} {f : Fr} {g : Option Nat} (h : FO N tr tb w v f) (hg : ∀ k, g = some k → k < N) : ∃ A, v = .agg A ∧ FvA w g A f := by
  obtain ⟨vr, vd, vc, vt, rfl, h1, h2, h3, h4⟩ := h
  exact ⟨_, rfl, vr, vd, vc, vt, rfl, ⟨Own.sr h1, Own.sl h2, Own.sl h3, Own.sl h4⟩, ap_own h1 hg, ap_own h2 hg, ap_own h3 hg, ap_own h4 hg⟩
/-- A slice of frames that the call made. -/
def OwnFs (w : World) (N : Nat) (tF : TypeId) (v : Value) (fs : List Fr) : Prop :=
  ∃ As : List (Array Value), As.length = fs.length ∧ w.ownsRow N tF 10 v fs.length (As.flatMap Array.toList) ∧ ∀ k, k < fs.length → FvA w v.ownBlock (As.getD k #[]) (fs.getD k fr0)
theorem OwnFs.nil (w : World) (N : Nat) (tF : TypeId) : OwnFs w N tF (.slice none 0 0) [] := ⟨[], rfl, World.ownsRow_nil _ _ _ _, fun k hk => by simp at hk⟩
theorem OwnFs.below {w w' : World} {N : Nat} {tF : TypeId} {v : Value} {fs : List Fr} (h : OwnFs w N tF v fs) (hb : Below w.heap.size w w') : OwnFs w' N tF v fs := by
  obtain ⟨As, hl, ho, hf⟩ := h
  exact ⟨As, hl, ho.kept (row := none) ⟨hb.os, hb.tape, hb.output, hb.size, fun k hk _ => hb.block k hk⟩ (by cases v.ownBlock <;> simp), fun k hk => (hf k hk).below hb⟩
theorem OwnFs.lt {w : World} {N : Nat} {tF : TypeId} {v : Value} {fs : List Fr} (h : OwnFs w N tF v fs) : ∀ k, v.ownBlock = some k → N ≤ k ∧ k < w.heap.size := by
  obtain ⟨As, hl, ho, hf⟩ := h
  exact ho.lt
theorem OwnFs.shape {w : World} {N : Nat} {tF : TypeId} {v : Value} {fs : List Fr} (h : OwnFs w N tF v fs) : ∃ ao cap, v = .slice ao fs.length cap := by
  obtain ⟨As, hl, ho, hf⟩ := h
  rcases ho.2 with ⟨rfl, h0⟩ | ⟨g, cap, cur, rfl, _⟩
  · exact ⟨none, 0, by rw [h0]⟩
  · exact ⟨_, cap, rfl⟩
theorem fold_cells' (a0 a1 a2 a3 a4 a5 a6 a7 a8 a9 i0 i1 i2 i3 i4 i5 i6 i7 i8 i9 : Value) : Array.foldl (fun cs x => cs.setIfInBounds x.snd x.fst) #[i0, i1, i2, i3, i4, i5, i6, i7, i8, i9] (#[a0, a1, a2, a3, a4, a5, a6, a7, a8, a9].zipIdx 0) 0 10 = #[a0, a1, a2, a3, a4, a5, a6, a7, a8, a9] := by kernel_rfl
theorem fold_cells (A : Array Value) (h : A.size = 10) (i0 i1 i2 i3 i4 i5 i6 i7 i8 i9 : Value) : Array.foldl (fun cs x => cs.setIfInBounds x.snd x.fst) #[i0, i1, i2, i3, i4, i5, i6, i7, i8, i9] (A.zipIdx 0) 0 10 = A := by
  obtain ⟨l⟩ := A
  match l, h with
  | [a0, a1, a2, a3, a4, a5, a6, a7, a8, a9], _ => exact fold_cells' a0 a1 a2 a3 a4 a5 a6 a7 a8 a9 i0 i1 i2 i3 i4 i5 i6 i7 i8 i9
/-- A frame put behind those of a slice that the call made. -/
theorem app_fs {P : Program} {w : World} {ops : Array Oper} {rest : List Oper} {o : Oper} {a : Act} {Q : Exit → Act → World → Prop} (hgd : o.guard = none) (s x : Operand) (t : TypeId)
    (ho : o.op = .call { callee := .builtin .append, args := #[s, x], argTypes := #[t, t] })
    (base : Nat) (e : TypeId) (i : TypeInfo) (z : Value) (bytes : Nat) (ht : P.underlying t = some (.slice e)) (hi : P.info? e = some i) (hz : i.zero = some z) (hzz : z.cells.size = 10)
    (hsize : i.size = 10) (hby : i.bytes = bytes) (hb200 : bytes ≤ 200)
    (v : Value) (fs : List Fr) (hs : a.eval s = v) (hown : OwnFs w base e v fs)
    (b c : Nat) (A : Array Value) (f : Fr) (hx : a.eval x = .slice (some ⟨b, 0, none⟩) 1 c) (hA : row? w b = some A) (hf : FvA w v.ownBlock A f) (hlen : fs.length ≤ 100000) (hbase : base ≤ w.heap.size)
    (h : ∀ v' w', OwnFs w' base e v' (fs ++ [f]) → w.grownBy w' v.ownBlock → wpList P ops Q rest (a.put o.dst v') w') : wpList P ops Q (o :: rest) a w := by
  obtain ⟨As, hl, hro, hfs⟩ := hown
  refine wpList_plain hgd fun K hK => ?_
  have hA10 := hf.size.1
  have hA1 := hf.size.2
  obtain ⟨v', w', hr, h2, h3, h4⟩ := run_append_own2 (P := P) w base t o.type e i z 10 bytes ht hi hz hsize hby hzz (by decide) v fs.length (As.flatMap Array.toList) hro ⟨b, 0, none⟩ 1 c A.toList (by simp [hA10]) (by
    intro j u hj
    rw [Addr.add_lit, Nat.zero_add, row?_cell hA, ← Array.getElem?_toList]
    exact hj) (by
    intro u hu
    unfold allOne at hA1
    rw [Array.all_eq_true_iff_forall_mem] at hA1
    exact hA1 u (by simpa using hu)) (by unfold maxLen; omega) (by have : (fs.length + 1) * bytes ≤ 100001 * 200 := Nat.mul_le_mul (by omega) hb200; omega) hbase
  unfold Oper.wp execOp
  simp only [ho, resolve, invoke, builtin, Sem.run_bind, Sem.run_pure, Result.andThen_ok, List.map_toArray, List.map_cons, List.map_nil, hs, hx, hr]
  refine hK _ _ (h v' w' ?_ h3)
  have hall : ∀ (g' : Option Nat), (g' = v.ownBlock ∨ ∀ k, g' = some k → w.heap.size ≤ k) → ∀ k, k < (fs ++ [f]).length → FvA w' g' ((As ++ [A]).getD k #[]) ((fs ++ [f]).getD k fr0) := by
    intro g' hg' k hk
    have turn : ∀ {B : Array Value} {q : Fr}, FvA w v.ownBlock B q → FvA w' g' B q := fun hB => by
      rcases hg' with rfl | hg'
      · exact hB.grown h3
      · exact hB.turn h3 hg'
    simp only [List.length_append, List.length_cons, List.length_nil] at hk
    by_cases hkl : k < fs.length
    · have e1 : (As ++ [A]).getD k #[] = As.getD k #[] := by simp [List.getD, List.getElem?_append_left (show k < As.length by omega)]
      have e2 : (fs ++ [f]).getD k fr0 = fs.getD k fr0 := by simp [List.getD, List.getElem?_append_left hkl]
      rw [e1, e2]
      exact turn (hfs k hkl)
    · obtain rfl : k = fs.length := by omega
      have e1 : (As ++ [A]).getD fs.length #[] = A := by rw [← hl]; simp [List.getD]
      have e2 : (fs ++ [f]).getD fs.length fr0 = f := by simp [List.getD]
      rw [e1, e2]
      exact turn hf
  refine ⟨As ++ [A], by simp [hl], ?_, hall _ h4⟩
  rw [List.flatMap_append, List.length_append]
  simpa using h2
/-- The frames of bytes; the first number bounds the rounds. -/
def fallGo : Nat → List UInt8 → List Fr → List Fr × Int
  | 0, _, out => if out.length = 0 then ([], 5) else (out, 0)
  | k + 1, b, out =>
    if b.length = 0 then (if out.length = 0 then ([], 5) else (out, 0))
    else if (if out.length = 64 then 4 else (fget b).2.2) ≠ 0 then ([], if out.length = 64 then 4 else (fget b).2.2) else fallGo k (b.drop (fget b).2.1) (out ++ [(fget b).1])
def fall (b : List UInt8) : List Fr × Int := fallGo b.length b []
theorem rvar_ge (b : List UInt8) (s : Nat × Int) : s.1 ≤ (rvar b s).1.1 := by unfold rvar; split <;> simp
theorem rtake_ge (b : List UInt8) (n : Nat) (s : Nat × Int) : s.1 ≤ (rtake b n s).1.1 := by
  unfold rtake
  repeat' split
  all_goals simp
theorem rzero_ge (b : List UInt8) (s : Nat × Int) : s.1 ≤ (rzero b s).1 := by unfold rzero; rw [rfail_at]; exact rvar_ge b s
theorem rgo_ge (b : List UInt8) : ∀ (many hi : Nat) (s : Nat × Int) (acc : List (Nat × Nat)), s.1 ≤ (rgo b many hi s acc).1.1
  | 0, hi, s, acc => by
    rw [rgo_eq]
    have := rvar_ge b s
    simp only []
    split <;> (rw [rfail_at]; exact this)
  | m + 1, hi, s, acc => by
    rw [rgo_eq]
    have h1 := rvar_ge b s
    simp only []
    split
    · rw [rfail_at]; exact h1
    · have h2 := rvar_ge b (rfail (decide (hi < (rvar b s).2)) 5 (rvar b s).1)
      rw [rfail_at] at h2
      split
      · rw [rfail_at]; omega
      · refine Nat.le_trans ?_ (rgo_ge b m _ _ _)
        rw [rfail_at]; omega
theorem rbytes_ge (b : List UInt8) (s : Nat × Int) (f : Fr) : s.1 ≤ (rbytes b s f).1.1 := by
  unfold rbytes
  simp only []
  refine Nat.le_trans ?_ (rtake_ge _ _ _)
  rw [rfail_at]
  exact Nat.le_trans (rvar_ge b s) (rvar_ge b _)
theorem rbody_ge (b : List UInt8) (s : Nat × Int) (f : Fr) : s.1 ≤ (rbody b s f).1.1 := by
  unfold rbody
  repeat' split
  · exact Nat.le_refl _
  · unfold rack
    simp only []
    refine Nat.le_trans ?_ (rgo_ge _ _ _ _ _)
    rw [rfail_at]
    exact Nat.le_trans (Nat.le_trans (rvar_ge b s) (rvar_ge b _)) (rvar_ge b _)
  · exact rbytes_ge b s f
  · exact Nat.le_trans (rvar_ge b s) (rbytes_ge b _ _)
  · exact rvar_ge b s
  · unfold rcid
    simp only []
    refine Nat.le_trans ?_ (rtake_ge _ _ _)
    refine Nat.le_trans ?_ (rtake_ge _ _ _)
    rw [rfail_at]
    refine Nat.le_trans ?_ (rtake_ge _ _ _)
    exact Nat.le_trans (rvar_ge b s) (rzero_ge b _)
  · exact rtake_ge _ _ _
  · exact Nat.le_trans (Nat.le_trans (rvar_ge b s) (rzero_ge b _)) (rzero_ge b _)
  · exact Nat.le_refl _
theorem rack_le (b : List UInt8) : ∀ (many hi : Nat) (s : Nat × Int) (acc : List (Nat × Nat)), s.1 ≤ b.length → (rgo b many hi s acc).1.1 ≤ b.length
  | 0, hi, s, acc, h => by
    rw [rgo_eq]
    have := rvar_le b s h
    simp only []
    split <;> (rw [rfail_at]; exact this)
  | m + 1, hi, s, acc, h => by
    rw [rgo_eq]
    have h1 := rvar_le b s h
    simp only []
    split
    · rw [rfail_at]; exact h1
    · have h2 := rvar_le b (rfail (decide (hi < (rvar b s).2)) 5 (rvar b s).1) (by rw [rfail_at]; exact h1)
      split
      · rw [rfail_at]; exact h2
      · exact rack_le b m _ _ _ (by rw [rfail_at]; exact h2)
theorem rbytes_le (b : List UInt8) (s : Nat × Int) (f : Fr) (h : s.1 ≤ b.length) : (rbytes b s f).1.1 ≤ b.length := by
  unfold rbytes
  simp only []
  refine rtake_le _ _ _ ?_
  rw [rfail_at]
  exact rvar_le b _ (rvar_le b s h)
theorem rbody_le (b : List UInt8) (s : Nat × Int) (f : Fr) (h : s.1 ≤ b.length) : (rbody b s f).1.1 ≤ b.length := by
  unfold rbody
  repeat' split
  · exact h
  · unfold rack
    simp only []
    refine rack_le b _ _ _ _ ?_
    rw [rfail_at]
    exact rvar_le b _ (rvar_le b _ (rvar_le b s h))
  · exact rbytes_le b s f h
  · exact rbytes_le b _ _ (rvar_le b s h)
  · exact rvar_le b s h
  · unfold rcid
    simp only []
    refine rtake_le _ _ _ ?_
    refine rtake_le _ _ _ ?_
    rw [rfail_at]
    refine rtake_le _ _ _ ?_
    exact rzero_le b _ (rvar_le b s h)
  · exact rtake_le _ _ _ h
  · exact rzero_le b _ (rzero_le b _ (rvar_le b s h))
  · exact h
theorem zrun_le (b : List UInt8) : zrun b ≤ b.length ∧ zrun b ≤ 16384 := by
  unfold zrun
  have h1 := (List.takeWhile_sublist (l := b.take 16384) (· == (0 : UInt8))).length_le
  rw [List.length_take] at h1
  omega
theorem fget_many {b : List UInt8} (h0 : 0 < b.length) (he : (fget b).2.2 = 0) : 1 ≤ (fget b).2.1 ∧ (fget b).2.1 ≤ b.length := by
  unfold fget at he ⊢
  rw [if_neg (by omega)] at he ⊢
  split at he
  · exact absurd he (by decide)
  rename_i h63
  rw [if_neg h63]
  split at he
  · rename_i hz
    rw [if_pos hz]
    simp only []
    refine ⟨?_, (zrun_le b).1⟩
    obtain ⟨c, l, rfl⟩ : ∃ c l, b = c :: l := by cases b with
      | nil => simp at h0
      | cons c l => exact ⟨c, l, rfl⟩
    have hc : c = 0 := hz
    subst hc
    simp [zrun, List.take]
  · rename_i hz
    rw [if_neg hz]
    simp only [] at he ⊢
    split at he
    · rename_i hx
      exact absurd he hx
    · rename_i hx
      rw [if_neg hx]
      simp only []
      exact ⟨rbody_ge b (1, 0) _, rbody_le b (1, 0) _ (by show 1 ≤ b.length; omega)⟩
end Frm
end
section
/- Frames one behind the other, and zeros, in plain words: All reads them as they were. No program. -/
namespace Frm
open Go Go.Rw Hdr
theorem fallGo_succ (k : Nat) (b : List UInt8) (out : List Fr) : fallGo (k + 1) b out = if b.length = 0 then (if out.length = 0 then ([], 5) else (out, 0)) else if (if out.length = 64 then 4 else (fget b).2.2) ≠ 0 then ([], if out.length = 64 then 4 else (fget b).2.2) else fallGo k (b.drop (fget b).2.1) (out ++ [(fget b).1]) := rfl
theorem fallGo_more : ∀ (k : Nat) (b : List UInt8) (out : List Fr), b.length ≤ k → fallGo (k + 1) b out = fallGo k b out := by
  intro k
  induction k with
  | zero =>
    intro b out h
    obtain rfl : b = [] := List.eq_nil_of_length_eq_zero (by omega)
    simp [fallGo]
  | succ k ih =>
    intro b out h
    rw [fallGo_succ (k + 1), fallGo_succ k b out]
    by_cases h0 : b.length = 0
    · rw [if_pos h0, if_pos h0]
    rw [if_neg h0, if_neg h0]
    by_cases h1 : (if out.length = 64 then 4 else (fget b).2.2) ≠ 0
    · rw [if_pos h1, if_pos h1]
    rw [if_neg h1, if_neg h1]
    have he : (fget b).2.2 = 0 := by
      by_cases h4 : out.length = 64
      · rw [if_pos h4] at h1; exact absurd (by decide) h1
      · rw [if_neg h4] at h1; exact Classical.not_not.1 h1
    have hm := fget_many (by omega) he
    exact ih _ _ (by rw [List.length_drop]; omega)
/-- With as much fuel as bytes. -/
def fallR (b : List UInt8) (out : List Fr) : List Fr × Int := fallGo b.length b out
theorem fallGo_fuel (b : List UInt8) (out : List Fr) : ∀ k, b.length ≤ k → fallGo k b out = fallR b out := by
  intro k
  induction k with
  | zero => intro h; unfold fallR; rw [show b.length = 0 by omega]
  | succ k ih =>
    intro h
    by_cases hk : b.length ≤ k
    · rw [fallGo_more k b out hk, ih hk]
    · unfold fallR; rw [show b.length = k + 1 by omega]
theorem fallR_nil (out : List Fr) (h : out.length ≠ 0) : fallR [] out = (out, 0) := by unfold fallR; simp [fallGo]; intro he; subst he; simp at h
theorem fallR_step {b : List UInt8} {out : List Fr} {f : Fr} {m : Nat} (hb : b.length ≠ 0) (ho : out.length < 64) (hg : fget b = (f, m, 0)) : fallR b out = fallR (b.drop m) (out ++ [f]) := by
  have hm := fget_many (b := b) (by omega) (by rw [hg])
  rw [hg] at hm
  simp only [] at hm
  obtain ⟨k, hk⟩ : ∃ k, b.length = k + 1 := ⟨b.length - 1, by omega⟩
  unfold fallR
  rw [hk, fallGo_succ, if_neg hb, if_neg (show ¬ out.length = 64 by omega), hg]
  simp only []
  rw [if_neg (by simp), fallGo_fuel _ _ k (by rw [List.length_drop]; omega)]
  rfl
/-- A frame that may be, no padding, ahead of any bytes. -/
theorem fallR_frame {f : Fr} {y : List UInt8} {out : List Fr} (hm : f.may = true) (hk : f.k ≠ 0) (ho : out.length < 64) : fallR (f.put ++ y) out = fallR y (out ++ [f]) := by
  have hg := fget_put f hm hk y
  have hl : f.put.length ≠ 0 := by
    intro h0
    have : f.put = [] := List.eq_nil_of_length_eq_zero h0
    unfold Fr.put at this
    rw [if_neg hk] at this
    repeat' split at this
    all_goals simp at this
  rw [fallR_step (by rw [List.length_append]; omega) ho hg, List.drop_left]
theorem zrun_rep (m : Nat) (y : List UInt8) (hy : ∀ c t, y = c :: t → c ≠ 0) : zrun (List.replicate m 0 ++ y) = min m 16384 := by
  unfold zrun
  by_cases h : m ≤ 16384
  · rw [List.take_append, List.takeWhile_append]
    have e1 : List.take 16384 (List.replicate m (0 : UInt8)) = List.replicate m 0 := by rw [List.take_of_length_le (by simp; omega)]
    have e2 : List.takeWhile (· == 0) (List.replicate m (0 : UInt8)) = List.replicate m 0 := by
      rw [List.takeWhile_replicate]; simp
    rw [e1, e2, if_pos rfl]
    have e3 : List.takeWhile (· == (0 : UInt8)) (y.take (16384 - (List.replicate m (0 : UInt8)).length)) = [] := by
      cases y with
      | nil => simp
      | cons c t =>
        have := hy c t rfl
        cases 16384 - (List.replicate m (0 : UInt8)).length with
        | zero => rfl
        | succ j => simp [this]
    rw [e3]
    simp; omega
  · rw [List.take_append_of_le_length (by simp; omega)]
    have e1 : List.take 16384 (List.replicate m (0 : UInt8)) = List.replicate 16384 0 := by rw [List.take_replicate]; congr 1; omega
    rw [e1, List.takeWhile_replicate, if_pos (by decide), List.length_replicate]; omega
def padF (m : Nat) : Fr := { fr0 with n := m }
set_option maxRecDepth 20000 in
theorem fget_zeros (m : Nat) (hm : 0 < m) (y : List UInt8) (hy : ∀ c t, y = c :: t → c ≠ 0) : fget (List.replicate m 0 ++ y) = (padF (min m 16384), min m 16384, 0) := by
  have hz := zrun_rep m y hy
  obtain ⟨k, rfl⟩ : ∃ k, m = k + 1 := ⟨m - 1, by omega⟩
  unfold fget
  rw [hz, if_neg (by simp), show nth (List.replicate (k + 1) 0 ++ y) 0 = 0 from rfl, if_neg (by decide), if_pos rfl]
  rfl
/-- The pieces of zeros. -/
def pads (m : Nat) : List Fr := (List.range ((m + 16383) / 16384)).map fun i => padF (min (m - i * 16384) 16384)
theorem pads_length (m : Nat) : (pads m).length = (m + 16383) / 16384 := by simp [pads]
theorem pads_cons (m : Nat) (hm : 0 < m) : pads m = padF (min m 16384) :: pads (m - 16384) := by
  unfold pads
  rw [show (m + 16383) / 16384 = (m - 16384 + 16383) / 16384 + 1 by omega, List.range_succ_eq_map, List.map_cons, List.map_map]
  simp only [Nat.zero_mul, Nat.sub_zero]
  refine congrArg (padF (min m 16384) :: ·) ?_
  apply List.map_congr_left
  intro i _
  simp only [Function.comp, Nat.succ_eq_add_one]
  rw [show m - (i + 1) * 16384 = m - 16384 - i * 16384 by omega]
set_option maxRecDepth 20000 in
theorem fallR_zeros : ∀ (k m : Nat) (y : List UInt8) (out : List Fr), m ≤ k → (∀ c t, y = c :: t → c ≠ 0) → out.length + (pads m).length < 64 → fallR (List.replicate m 0 ++ y) out = fallR y (out ++ pads m) := by
  intro k
  induction k with
  | zero =>
    intro m y out hm hy ho
    obtain rfl : m = 0 := by omega
    simp [pads]
  | succ k ih =>
    intro m y out hm hy ho
    by_cases h0 : m = 0
    · subst h0; simp [pads]
    have hc := pads_cons m (by omega)
    rw [hc, List.length_cons] at ho
    rw [fallR_step (by simp; omega) (by omega) (fget_zeros m (by omega) y hy)]
    have e : (List.replicate m (0 : UInt8) ++ y).drop (min m 16384) = List.replicate (m - 16384) 0 ++ y := by
      rw [List.drop_append_of_le_length (by simp; omega), List.drop_replicate, show m - min m 16384 = m - 16384 by omega]
    rw [e, ih (m - 16384) y (out ++ [padF (min m 16384)]) (by omega) hy (by rw [List.length_append, List.length_singleton]; omega), hc]
    simp
end Frm
end
