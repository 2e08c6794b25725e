/- LibK; FrmL; FrmAll. -/
import Derived.Test.YtipniobgijdlkaaMgr5
import Derived.Test.YtipniobgijdlkaaMgrFrmW5
section
/- Ints put behind those of an owned slice: the block is the same, or a new one. Over any program. -/
namespace Go.Rw
open Go Go.RowKit
theorem run_append_own2 {P : Program} (w : World) (base : Nat) (t ty e : TypeId) (i : TypeInfo) (z : Value) (size bytes : Nat) (ht : P.underlying t = some (.slice e)) (hi : P.info? e = some i) (hz : i.zero = some z)
    (hsize : i.size = size) (hby : i.bytes = bytes) (hzs : z.cells.size = size) (hsz : 0 < size)
    (v : Value) (n : Nat) (xs : List Value) (hown : w.ownsRow base e size v n xs)
    (a : Addr) (m c : Nat) (news : List Value) (hl : news.length = m * size) (hnews : ∀ j u, news[j]? = some u → w.cell? (a.add j) = some u) (h1 : ∀ u ∈ news, u.oneCell' = true)
    (h63 : n + m ≤ maxLen) (hbytes : (n + m) * bytes ≤ 140737488355328) (hbase : base ≤ w.heap.size) :
    ∃ v' w', (Builtin.append_ #[t, t] ty #[v, .slice (some a) m c]).run P w = .ok v' w' ∧ w'.ownsRow base e size v' (n + m) (xs ++ news) ∧ w.grownBy w' v.ownBlock ∧
      (v'.ownBlock = v.ownBlock ∨ ∀ k, v'.ownBlock = some k → w.heap.size ≤ k) := by
  obtain ⟨v', w', hr, h2, h3, _⟩ := run_append_own (P := P) w base t ty e i z size bytes ht hi hz hsize hby hzs hsz v n xs hown a m c news hl hnews h1 h63 hbytes hbase
  refine ⟨v', w', hr, h2, h3, ?_⟩
  rcases hown.2 with ⟨rfl, rfl⟩ | ⟨g, cap, cur, rfl, hbg, hg, hnc, hcm, hcs, htake⟩
  · have hx : xs = [] := List.eq_nil_of_length_eq_zero (by simpa using hown.1)
    subst hx
    obtain ⟨v2, w2, hr2, k2, _, _⟩ := run_append_own (P := P) w w.heap.size t ty e i z size bytes ht hi hz hsize hby hzs hsz (.slice none 0 0) 0 [] (World.ownsRow_nil _ _ _ _) a m c news hl hnews h1 h63 hbytes (Nat.le_refl _)
    rw [hr] at hr2
    cases hr2
    exact .inr fun k hk => (k2.lt k hk).1
  · by_cases hroom : n + m ≤ cap
    · have hfit : n * i.size + news.length ≤ cur.size := by rw [hl, hcs, hsize, ← Nat.add_mul]; exact Nat.mul_le_mul_right _ hroom
      have hr2 := run_append_room (P := P) w t ty e i ht hi g n cap cur hg a m c news (by rw [hsize]; exact hl) hnews h1 hroom hfit
      rw [hr] at hr2
      cases hr2
      exact .inl rfl
    · have holds : ∀ j u, xs[j]? = some u → w.cell? ((⟨g, 0, none⟩ : Addr).add j) = some u := hown.cells (g := g) rfl
      have hsmall : n + m ≤ 9223372036854775807 := by simp only [maxLen] at h63; omega
      have hr2 := run_append_grow (P := P) w t ty e i z ht hi hz ⟨g, 0, none⟩ n cap xs (by rw [hsize]; exact hown.1) holds a m c news (by rw [hsize]; exact hl) hnews (by omega) (by omega) (growslice_fits (by omega) (by rw [hby]; exact hbytes))
      rw [hr] at hr2
      cases hr2
      refine .inr fun k hk => ?_
      simp [Value.ownBlock] at hk
      omega
/-- Appending what a slice reads to an owned slice. -/
theorem app_si2 {P : Program} {w : World} {ops : Array Oper} {rest : List Oper} {o : Oper} {a : Act} {Q : Exit → Act → World → Prop} (hgd : o.guard = none) (s x : Operand) (t : TypeId)
    (ho : o.op = .call { callee := .builtin .append, args := #[s, x], argTypes := #[t, t] })
    (base : Nat) (e : TypeId) (i : TypeInfo) (ht : P.underlying t = some (.slice e)) (hi : P.info? e = some i) (hz : i.zero = some (.int .i64 0))
    (hsize : i.size = 1) (hby : i.bytes = 8)
    (v : Value) (l : List Int) (hs : a.eval s = v) (hown : w.ownsRow base e 1 v l.length (l.map iv))
    (b : Nat) (c : Nat) (m : List Int) (hx : a.eval x = .slice (some ⟨b, 0, none⟩) m.length c) (hu : ∀ k, k < m.length → w.cell? ⟨b, k, none⟩ = some (.int .i64 (ni m k))) (hlen : l.length + m.length ≤ 2000000) (hbase : base ≤ w.heap.size)
    (h : ∀ v' w', w'.ownsRow base e 1 v' (l ++ m).length ((l ++ m).map iv) → w.grownBy w' v.ownBlock → (v'.ownBlock = v.ownBlock ∨ ∀ k, v'.ownBlock = some k → w.heap.size ≤ k) → wpList P ops Q rest (a.put o.dst v') w') : wpList P ops Q (o :: rest) a w := by
  refine wpList_plain hgd fun K hK => ?_
  obtain ⟨v', w', hr, h2, h3, h4⟩ := run_append_own2 (P := P) w base t o.type e i (.int .i64 0) 1 8 ht hi hz hsize hby rfl (by decide) v l.length (l.map iv) hown ⟨b, 0, none⟩ m.length c (m.map iv) (by simp) (by
    intro j u hj
    have hjl : j < m.length := by have := (List.getElem?_eq_some_iff.1 hj).1; simpa using this
    rw [Addr.add_lit, Nat.zero_add, hu j hjl, ← hj]
    simp [ni, iv, hjl]) (map_iv_one m) (by unfold maxLen; omega) (by omega) hbase
  unfold Oper.wp execOp
  simp only [ho, resolve, invoke, builtin, Sem.run_bind, Sem.run_pure, Result.andThen_ok, List.map_toArray, List.map_cons, List.map_nil, hs, hx, hr]
  refine hK _ _ (h v' w' ?_ h3 h4)
  rw [List.length_append, List.map_append]
  exact h2
end Go.Rw
end
section
/- Slices of frames that a call makes itself; and the frames of bytes, in plain words. -/
namespace Frm
open Go Go.RowKit Go.Rw Hdr
/-- A slice that lies in no cell of the block g. -/
def Ap (g : Option Nat) (v : Value) : Prop := ∀ b off n cap, v = .slice (some ⟨b, off, none⟩) n cap → 0 < n → some b ≠ g
/-- Ten cells read a frame; nothing of it lies in the block g. -/
def FvA (w : World) (g : Option Nat) (A : Array Value) (f : Fr) : Prop :=
  ∃ vr vd vc vt, A = fvA f.k f.n f.d vr f.i f.o f.fin vd vc vt ∧ (Sr w vr f.rs ∧ Sl w vd f.dat ∧ Sl w vc f.cid ∧ Sl w vt f.tok) ∧ Ap g vr ∧ Ap g vd ∧ Ap g vc ∧ Ap g vt
theorem FvA.fv {w : World} {g : Option Nat} {A : Array Value} {f : Fr} (h : FvA w g A f) : Fv w (.agg A) f := by
  obtain ⟨vr, vd, vc, vt, rfl, ⟨h1, h2, h3, h4⟩, _⟩ := h
  exact ⟨vr, vd, vc, vt, rfl, h1, h2, h3, h4⟩
theorem FvA.size {w : World} {g : Option Nat} {A : Array Value} {f : Fr} (h : FvA w g A f) : A.size = 10 ∧ allOne A = true := by
  obtain ⟨vr, vd, vc, vt, rfl, ⟨⟨a1, c1, rfl, _⟩, ⟨a2, c2, rfl, _⟩, ⟨a3, c3, rfl, _⟩, ⟨a4, c4, rfl, _⟩⟩, _⟩ := h
  exact ⟨rfl, fvA_all _ _ _ _ _ _ _ _ _ _ _ _ _ _ _ _ _ _⟩
theorem FvA.below {w w' : World} {g : Option Nat} {A : Array Value} {f : Fr} (h : FvA w g A f) (hb : Below w.heap.size w w') : FvA w' g A f := by
  obtain ⟨vr, vd, vc, vt, rfl, ⟨h1, h2, h3, h4⟩, hg⟩ := h
  exact ⟨vr, vd, vc, vt, rfl, ⟨h1.below hb, h2.below hb, h3.below hb, h4.below hb⟩, hg⟩
theorem slGrown {w w' : World} {v : Value} {l : List UInt8} {r : Option Nat} (h : Sl w v l) (hg : w.grownBy w' r) (hne : Ap r v) : Sl w' v l := by
  obtain ⟨ao, cap, rfl, hc, hn, hp⟩ := h
  refine ⟨ao, cap, rfl, hc, hn, fun h0 => ?_⟩
  obtain ⟨b, off, rfl, hcell⟩ := hp h0
  exact ⟨b, off, rfl, fun k hk => by rw [← hcell k hk]; exact World.cell?_of_block (hg.block b (cell_lt (hcell k hk)) (hne b off _ _ rfl h0))⟩
theorem FvA.grown {w w' : World} {g : Option Nat} {A : Array Value} {f : Fr} (h : FvA w g A f) (hg : w.grownBy w' g) : FvA w' g A f := by
  obtain ⟨vr, vd, vc, vt, rfl, ⟨h1, h2, h3, h4⟩, p1, p2, p3, p4⟩ := h
  exact ⟨vr, vd, vc, vt, rfl, ⟨h1.grown hg p1, slGrown h2 hg p2, slGrown h3 hg p3, slGrown h4 hg p4⟩, p1, p2, p3, p4⟩
theorem ap_new {w : World} {v : Value} {g : Option Nat} (hg : ∀ k, g = some k → w.heap.size ≤ k) (hlt : ∀ b off n cap, v = .slice (some ⟨b, off, none⟩) n cap → 0 < n → b < w.heap.size) : Ap g v := by
  intro b off n cap e h0 e2
  have := hg b e2.symm
  have := hlt b off n cap e h0
  omega
theorem sl_lt {w : World} {v : Value} {l : List UInt8} (h : Sl w v l) : ∀ b off n cap, v = .slice (some ⟨b, off, none⟩) n cap → 0 < n → b < w.heap.size := by
  intro b off n cap e h0
  obtain ⟨ao, cap', e', _, _, hp⟩ := h
  rw [e] at e'
  cases e'
  obtain ⟨b', off', e2, hc⟩ := hp h0
  cases e2
  exact cell_lt (hc 0 h0)
theorem sr_lt {w : World} {v : Value} {l : List (Nat × Nat)} (h : Sr w v l) : ∀ b off n cap, v = .slice (some ⟨b, off, none⟩) n cap → 0 < n → b < w.heap.size := by
  intro b off n cap e h0
  obtain ⟨ao, cap', e', _, _, hp⟩ := h
  rw [e] at e'
  cases e'
  obtain ⟨b', off', e2, hc⟩ := hp h0
  cases e2
  exact cell_lt (hc 0 h0).1
theorem FvA.new {w : World} {g g' : Option Nat} {A : Array Value} {f : Fr} (h : FvA w g A f) (hg : ∀ k, g' = some k → w.heap.size ≤ k) : FvA w g' A f := by
  obtain ⟨vr, vd, vc, vt, rfl, ⟨h1, h2, h3, h4⟩, _⟩ := h
  exact ⟨vr, vd, vc, vt, rfl, ⟨h1, h2, h3, h4⟩, ap_new hg (sr_lt h1), ap_new hg (sl_lt h2), ap_new hg (sl_lt h3), ap_new hg (sl_lt h4)⟩
theorem FvA.turn {w w' : World} {g g' : Option Nat} {A : Array Value} {f : Fr} (h : FvA w g A f) (hb : w.grownBy w' g) (hg : ∀ k, g' = some k → w.heap.size ≤ k) : FvA w' g' A f := by
  obtain ⟨vr, vd, vc, vt, rfl, ⟨h1, h2, h3, h4⟩, p1, p2, p3, p4⟩ := h
  exact ⟨vr, vd, vc, vt, rfl, ⟨h1.grown hb p1, slGrown h2 hb p2, slGrown h3 hb p3, slGrown h4 hb p4⟩, ap_new hg (sr_lt h1), ap_new hg (sl_lt h2), ap_new hg (sl_lt h3), ap_new hg (sl_lt h4)⟩
theorem ap_own {w : World} {N n sz : Nat} {e : TypeId} {v : Value} {xs : List Value} {g : Option Nat} (h : w.ownsRow N e sz v n xs) (hg : ∀ k, g = some k → k < N) : Ap g v := by
  intro b off m cap e1 h0 e2
  have hk := (h.lt b (by rw [e1]; rfl)).1
  have := hg b e2.symm
  omega
theorem FO.fva {N : Nat} {tr tb : TypeId} {w : World} {v : Value} {f : Fr} {g : Option Nat} (h : FO N tr tb w v f) (hg : ∀ k, g = some k → k < N) : ∃ A, v = .agg A ∧ FvA w g A f := by
  obtain ⟨vr, vd, vc, vt, rfl, h1, h2, h3, h4⟩ := h
  exact ⟨_, rfl, vr, vd, vc, vt, rfl, ⟨Own.sr h1, Own.sl h2, Own.sl h3, Own.sl h4⟩, ap_own h1 hg, ap_own h2 hg, ap_own h3 hg, ap_own h4 hg⟩
/-- A slice of frames that the call made. -/
def OwnFs (w : World) (N : Nat) (tF : TypeId) (v : Value) (fs : List Fr) : Prop :=
  ∃ As : List (Array Value), As.length = fs.length ∧ w.ownsRow N tF 10 v fs.length (As.flatMap Array.toList) ∧ ∀ k, k < fs.length → FvA w v.ownBlock (As.getD k #[]) (fs.getD k fr0)
theorem OwnFs.nil (w : World) (N : Nat) (tF : TypeId) : OwnFs w N tF (.slice none 0 0) [] := ⟨[], rfl, World.ownsRow_nil _ _ _ _, fun k hk => by simp at hk⟩
theorem OwnFs.below {w w' : World} {N : Nat} {tF : TypeId} {v : Value} {fs : List Fr} (h : OwnFs w N tF v fs) (hb : Below w.heap.size w w') : OwnFs w' N tF v fs := by
  obtain ⟨As, hl, ho, hf⟩ := h
  exact ⟨As, hl, ho.kept (row := none) ⟨hb.os, hb.tape, hb.output, hb.size, fun k hk _ => hb.block k hk⟩ (by cases v.ownBlock <;> simp), fun k hk => (hf k hk).below hb⟩
theorem OwnFs.lt {w : World} {N : Nat} {tF : TypeId} {v : Value} {fs : List Fr} (h : OwnFs w N tF v fs) : ∀ k, v.ownBlock = some k → N ≤ k ∧ k < w.heap.size := by
  obtain ⟨As, hl, ho, hf⟩ := h
  exact ho.lt
theorem OwnFs.shape {w : World} {N : Nat} {tF : TypeId} {v : Value} {fs : List Fr} (h : OwnFs w N tF v fs) : ∃ ao cap, v = .slice ao fs.length cap := by
  obtain ⟨As, hl, ho, hf⟩ := h
  rcases ho.2 with ⟨rfl, h0⟩ | ⟨g, cap, cur, rfl, _⟩
  · exact ⟨none, 0, by rw [h0]⟩
  · exact ⟨_, cap, rfl⟩
theorem fold_cells' (a0 a1 a2 a3 a4 a5 a6 a7 a8 a9 i0 i1 i2 i3 i4 i5 i6 i7 i8 i9 : Value) : Array.foldl (fun cs x => cs.setIfInBounds x.snd x.fst) #[i0, i1, i2, i3, i4, i5, i6, i7, i8, i9] (#[a0, a1, a2, a3, a4, a5, a6, a7, a8, a9].zipIdx 0) 0 10 = #[a0, a1, a2, a3, a4, a5, a6, a7, a8, a9] := by kernel_rfl
theorem fold_cells (A : Array Value) (h : A.size = 10) (i0 i1 i2 i3 i4 i5 i6 i7 i8 i9 : Value) : Array.foldl (fun cs x => cs.setIfInBounds x.snd x.fst) #[i0, i1, i2, i3, i4, i5, i6, i7, i8, i9] (A.zipIdx 0) 0 10 = A := by
  obtain ⟨l⟩ := A
  match l, h with
  | [a0, a1, a2, a3, a4, a5, a6, a7, a8, a9], _ => exact fold_cells' a0 a1 a2 a3 a4 a5 a6 a7 a8 a9 i0 i1 i2 i3 i4 i5 i6 i7 i8 i9
/-- A frame put behind those of a slice that the call made. -/
theorem app_fs {P : Program} {w : World} {ops : Array Oper} {rest : List Oper} {o : Oper} {a : Act} {Q : Exit → Act → World → Prop} (hgd : o.guard = none) (s x : Operand) (t : TypeId)
    (ho : o.op = .call { callee := .builtin .append, args := #[s, x], argTypes := #[t, t] })
    (base : Nat) (e : TypeId) (i : TypeInfo) (z : Value) (bytes : Nat) (ht : P.underlying t = some (.slice e)) (hi : P.info? e = some i) (hz : i.zero = some z) (hzz : z.cells.size = 10)
    (hsize : i.size = 10) (hby : i.bytes = bytes) (hb200 : bytes ≤ 200)
    (v : Value) (fs : List Fr) (hs : a.eval s = v) (hown : OwnFs w base e v fs)
    (b c : Nat) (A : Array Value) (f : Fr) (hx : a.eval x = .slice (some ⟨b, 0, none⟩) 1 c) (hA : row? w b = some A) (hf : FvA w v.ownBlock A f) (hlen : fs.length ≤ 100000) (hbase : base ≤ w.heap.size)
    (h : ∀ v' w', OwnFs w' base e v' (fs ++ [f]) → w.grownBy w' v.ownBlock → wpList P ops Q rest (a.put o.dst v') w') : wpList P ops Q (o :: rest) a w := by
  obtain ⟨As, hl, hro, hfs⟩ := hown
  refine wpList_plain hgd fun K hK => ?_
  have hA10 := hf.size.1
  have hA1 := hf.size.2
  obtain ⟨v', w', hr, h2, h3, h4⟩ := run_append_own2 (P := P) w base t o.type e i z 10 bytes ht hi hz hsize hby hzz (by decide) v fs.length (As.flatMap Array.toList) hro ⟨b, 0, none⟩ 1 c A.toList (by simp [hA10]) (by
    intro j u hj
    rw [Addr.add_lit, Nat.zero_add, row?_cell hA, ← Array.getElem?_toList]
    exact hj) (by
    intro u hu
    unfold allOne at hA1
    rw [Array.all_eq_true_iff_forall_mem] at hA1
    exact hA1 u (by simpa using hu)) (by unfold maxLen; omega) (by have : (fs.length + 1) * bytes ≤ 100001 * 200 := Nat.mul_le_mul (by omega) hb200; omega) hbase
  unfold Oper.wp execOp
  simp only [ho, resolve, invoke, builtin, Sem.run_bind, Sem.run_pure, Result.andThen_ok, List.map_toArray, List.map_cons, List.map_nil, hs, hx, hr]
  refine hK _ _ (h v' w' ?_ h3)
  have hall : ∀ (g' : Option Nat), (g' = v.ownBlock ∨ ∀ k, g' = some k → w.heap.size ≤ k) → ∀ k, k < (fs ++ [f]).length → FvA w' g' ((As ++ [A]).getD k #[]) ((fs ++ [f]).getD k fr0) := by
    intro g' hg' k hk
    have turn : ∀ {B : Array Value} {q : Fr}, FvA w v.ownBlock B q → FvA w' g' B q := fun hB => by
      rcases hg' with rfl | hg'
      · exact hB.grown h3
      · exact hB.turn h3 hg'
    simp only [List.length_append, List.length_cons, List.length_nil] at hk
    by_cases hkl : k < fs.length
    · have e1 : (As ++ [A]).getD k #[] = As.getD k #[] := by simp [List.getD, List.getElem?_append_left (show k < As.length by omega)]
      have e2 : (fs ++ [f]).getD k fr0 = fs.getD k fr0 := by simp [List.getD, List.getElem?_append_left hkl]
      rw [e1, e2]
      exact turn (hfs k hkl)
    · obtain rfl : k = fs.length := by omega
      have e1 : (As ++ [A]).getD fs.length #[] = A := by rw [← hl]; simp [List.getD]
      have e2 : (fs ++ [f]).getD fs.length fr0 = f := by simp [List.getD]
      rw [e1, e2]
      exact turn hf
  refine ⟨As ++ [A], by simp [hl], ?_, hall _ h4⟩
  rw [List.flatMap_append, List.length_append]
  simpa using h2
/-- The frames of bytes; the first number bounds the rounds. -/
def fallGo : Nat → List UInt8 → List Fr → List Fr × Int
  | 0, _, out => if out.length = 0 then ([], 5) else (out, 0)
  | k + 1, b, out =>
    if b.length = 0 then (if out.length = 0 then ([], 5) else (out, 0))
    else if (if out.length = 64 then 4 else (fget b).2.2) ≠ 0 then ([], if out.length = 64 then 4 else (fget b).2.2) else fallGo k (b.drop (fget b).2.1) (out ++ [(fget b).1])
def fall (b : List UInt8) : List Fr × Int := fallGo b.length b []
theorem rvar_ge (b : List UInt8) (s : Nat × Int) : s.1 ≤ (rvar b s).1.1 := by unfold rvar; split <;> simp
theorem rtake_ge (b : List UInt8) (n : Nat) (s : Nat × Int) : s.1 ≤ (rtake b n s).1.1 := by
  unfold rtake
  repeat' split
  all_goals simp
theorem rzero_ge (b : List UInt8) (s : Nat × Int) : s.1 ≤ (rzero b s).1 := by unfold rzero; rw [rfail_at]; exact rvar_ge b s
theorem rgo_ge (b : List UInt8) : ∀ (many hi : Nat) (s : Nat × Int) (acc : List (Nat × Nat)), s.1 ≤ (rgo b many hi s acc).1.1
  | 0, hi, s, acc => by
    rw [rgo_eq]
    have := rvar_ge b s
    simp only []
    split <;> (rw [rfail_at]; exact this)
  | m + 1, hi, s, acc => by
    rw [rgo_eq]
    have h1 := rvar_ge b s
    simp only []
    split
    · rw [rfail_at]; exact h1
    · have h2 := rvar_ge b (rfail (decide (hi < (rvar b s).2)) 5 (rvar b s).1)
      rw [rfail_at] at h2
      split
      · rw [rfail_at]; omega
      · refine Nat.le_trans ?_ (rgo_ge b m _ _ _)
        rw [rfail_at]; omega
theorem rbytes_ge (b : List UInt8) (s : Nat × Int) (f : Fr) : s.1 ≤ (rbytes b s f).1.1 := by
  unfold rbytes
  simp only []
  refine Nat.le_trans ?_ (rtake_ge _ _ _)
  rw [rfail_at]
  exact Nat.le_trans (rvar_ge b s) (rvar_ge b _)
theorem rbody_ge (b : List UInt8) (s : Nat × Int) (f : Fr) : s.1 ≤ (rbody b s f).1.1 := by
  unfold rbody
  repeat' split
  · exact Nat.le_refl _
  · unfold rack
    simp only []
    refine Nat.le_trans ?_ (rgo_ge _ _ _ _ _)
    rw [rfail_at]
    exact Nat.le_trans (Nat.le_trans (rvar_ge b s) (rvar_ge b _)) (rvar_ge b _)
  · exact rbytes_ge b s f
  · exact Nat.le_trans (rvar_ge b s) (rbytes_ge b _ _)
  · exact rvar_ge b s
  · unfold rcid
    simp only []
    refine Nat.le_trans ?_ (rtake_ge _ _ _)
    refine Nat.le_trans ?_ (rtake_ge _ _ _)
    rw [rfail_at]
    refine Nat.le_trans ?_ (rtake_ge _ _ _)
    exact Nat.le_trans (rvar_ge b s) (rzero_ge b _)
  · exact rtake_ge _ _ _
  · exact Nat.le_trans (Nat.le_trans (rvar_ge b s) (rzero_ge b _)) (rzero_ge b _)
  · exact Nat.le_refl _
theorem rack_le (b : List UInt8) : ∀ (many hi : Nat) (s : Nat × Int) (acc : List (Nat × Nat)), s.1 ≤ b.length → (rgo b many hi s acc).1.1 ≤ b.length
  | 0, hi, s, acc, h => by
    rw [rgo_eq]
    have := rvar_le b s h
    simp only []
    split <;> (rw [rfail_at]; exact this)
  | m + 1, hi, s, acc, h => by
    rw [rgo_eq]
    have h1 := rvar_le b s h
    simp only []
    split
    · rw [rfail_at]; exact h1
    · have h2 := rvar_le b (rfail (decide (hi < (rvar b s).2)) 5 (rvar b s).1) (by rw [rfail_at]; exact h1)
      split
      · rw [rfail_at]; exact h2
      · exact rack_le b m _ _ _ (by rw [rfail_at]; exact h2)
theorem rbytes_le (b : List UInt8) (s : Nat × Int) (f : Fr) (h : s.1 ≤ b.length) : (rbytes b s f).1.1 ≤ b.length := by
  unfold rbytes
  simp only []
  refine rtake_le _ _ _ ?_
  rw [rfail_at]
  exact rvar_le b _ (rvar_le b s h)
theorem rbody_le (b : List UInt8) (s : Nat × Int) (f : Fr) (h : s.1 ≤ b.length) : (rbody b s f).1.1 ≤ b.length := by
  unfold rbody
  repeat' split
  · exact h
  · unfold rack
    simp only []
    refine rack_le b _ _ _ _ ?_
    rw [rfail_at]
    exact rvar_le b _ (rvar_le b _ (rvar_le b s h))
  · exact rbytes_le b s f h
  · exact rbytes_le b _ _ (rvar_le b s h)
  · exact rvar_le b s h
  · unfold rcid
    simp only []
    refine rtake_le _ _ _ ?_
    refine rtake_le _ _ _ ?_
    rw [rfail_at]
    refine rtake_le _ _ _ ?_
    exact rzero_le b _ (rvar_le b s h)
  · exact rtake_le _ _ _ h
  · exact rzero_le b _ (rzero_le b _ (rvar_le b s h))
  · exact h
theorem zrun_le (b : List UInt8) : zrun b ≤ b.length ∧ zrun b ≤ 16384 := by
  unfold zrun
  have h1 := (List.takeWhile_sublist (l := b.take 16384) (· == (0 : UInt8))).length_le
  rw [List.length_take] at h1
  omega
theorem fget_many {b : List UInt8} (h0 : 0 < b.length) (he : (fget b).2.2 = 0) : 1 ≤ (fget b).2.1 ∧ (fget b).2.1 ≤ b.length := by
  unfold fget at he ⊢
  rw [if_neg (by omega)] at he ⊢
  split at he
  · exact absurd he (by decide)
  rename_i h63
  rw [if_neg h63]
  split at he
  · rename_i hz
    rw [if_pos hz]
    simp only []
    refine ⟨?_, (zrun_le b).1⟩
    obtain ⟨c, l, rfl⟩ : ∃ c l, b = c :: l := by cases b with
      | nil => simp at h0
      | cons c l => exact ⟨c, l, rfl⟩
    have hc : c = 0 := hz
    subst hc
    simp [zrun, List.take]
  · rename_i hz
    rw [if_neg hz]
    simp only [] at he ⊢
    split at he
    · rename_i hx
      exact absurd he hx
    · rename_i hx
      rw [if_neg hx]
      simp only []
      exact ⟨rbody_ge b (1, 0) _, rbody_le b (1, 0) _ (by show 1 ≤ b.length; omega)⟩
end Frm
end
section
/- The walk of package frame's All: the frames of bytes. -/
namespace Go.Proofs.Ytipniobgijdlkaa
open Go.RowKit Go.Rw Frm Hdr
attribute [local go_sem ↓] ldFF stFF alFF
attribute [local go_sem] rldFF rstFF ralFF setRow_alloc_at setRow_alloc_past setRow_drew
theorem infoFr : (Try.prog.info? 28).map (fun i => (i.zero, i.size, i.bytes)) = some (some (.agg (fvA 0 0 0 (.slice none 0 0) 0 0 false (.slice none 0 0) (.slice none 0 0) (.slice none 0 0))), 10, 144) := by kernel_rfl
/-- What All answers. -/
def FAll (w : World) (q : List Fr × Int) (e : Ending) (w' : World) : Prop :=
  ∃ v, e = .returned (.tuple #[v, .int .i64 q.2]) ∧ OwnFs w' w.heap.size 28 v q.1 ∧ Below w.heap.size w w'
theorem fallGo_nil (k : Nat) (out : List Fr) : fallGo k [] out = if out.length = 0 then ([], 5) else (out, 0) := by cases k <;> simp [fallGo]
set_option maxRecDepth 100000 in
set_option maxHeartbeats 4000000 in
theorem fall_any (b : List UInt8) (hb : b.length ≤ 100000) (vb : Value) (w : World) (hs : Sl w vb b) :
    Calls Try.prog 36 #[vb] w (FAll w (fall b)) := by
  obtain ⟨i0, hi0, hz0, hz1, hz2⟩ := info_parts infoFr
  obtain ⟨q, hq⟩ : ∃ q, fall b = q := ⟨_, rfl⟩
  rw [hq]
  unfold fall at hq
  have HQ := Lib.hid hq
  have HS := Lib.hid hs
  obtain ⟨ao, cap, rfl, hc, -, -⟩ := id hs
  clear hq hs
  go_enter Try.func36, Try.ntmps36
  go_wp2_with fail
  go_loopw [0, 4, 5, 6, 7] (fun v0 v4 v5 v6 v7 wr => ∃ (k : Nat) (rest : List UInt8) (out : List Fr), rest.length ≤ b.length ∧ rest.length ≤ k ∧ Sl w v0 rest ∧ OwnFs wr w.heap.size 28 v4 out ∧ out.length ≤ 64 ∧ fallGo k rest out = q ∧ Below w.heap.size w wr) (fun v0 _ _ _ _ _ => lenOf v0)
  case atStart => exact ⟨b.length, b, [], Nat.le_refl _, Nat.le_refl _, HS.out, OwnFs.nil _ _ _, by simp, HQ.out, Below.refl _ _⟩
  case round =>
    obtain ⟨k, rest, out, hr1, hr2, hsr, hof, hol, hgo, hbw⟩ := hrel
    obtain ⟨a0, x0, rfl, hx0, -, -⟩ := id hsr
    obtain ⟨a4, x4, rfl⟩ := hof.shape
    have SR := Lib.hid hsr
    have OF := Lib.hid hof
    have GO := Lib.hid hgo
    have BW := Lib.hid hbw
    clear hsr hof hgo hbw HQ HS
    by_cases h0 : rest.length = 0
    case pos =>
      have p : decide (0 < rest.length) = false := decide_eq_false (by omega)
      have hgo := GO.out
      obtain rfl : rest = [] := List.eq_nil_of_length_eq_zero h0
      rw [fallGo_nil] at hgo
      by_cases ho : out.length = 0
      · rw [if_pos ho] at hgo
        subst hgo
        have q0 : ((out.length : Int) == 0) = true := by rw [beq_iff_eq]; omega
        clear GO ho h0
        go_wp2_with fail
        go_ret2
        exact ⟨_, rfl, OwnFs.nil _ _ _, BW.out⟩
      · rw [if_neg ho] at hgo
        subst hgo
        have q0 : ((out.length : Int) == 0) = false := by rw [beq_eq_false_iff_ne]; omega
        clear GO ho h0
        go_wp2_with fail
        go_ret2
        exact ⟨_, rfl, OF.out, BW.out⟩
    have p : decide (0 < rest.length) = true := decide_eq_true (by omega)
    obtain ⟨k, rfl⟩ : ∃ k', k = k' + 1 := ⟨k - 1, by omega⟩
    have hgo := GO.out
    unfold fallGo at hgo
    rw [if_neg h0] at hgo
    have hmany := fget_many (b := rest) (by omega)
    have hget := fget_any rest (by omega) (.slice a0 rest.length x0) wr (SR.out.below BW.out)
    obtain ⟨⟨f, many, er⟩, hfg⟩ : ∃ q, fget rest = q := ⟨_, rfl⟩
    rw [hfg] at hgo hmany hget
    simp only [] at hgo hmany
    have GO2 := Lib.hid hgo
    have HM := Lib.hid hmany
    have HG := Lib.hid hget
    have H0 := Lib.hid h0
    clear hgo hmany hget hfg h0 GO
    go_wp2_with fail
    refine HG.out.mono ?_
    rintro e w1 ⟨vf, rfl, fo, b1⟩
    obtain ⟨A, rfl, fva⟩ := fo.fva (g := (Value.slice a4 out.length x4).ownBlock) (fun k hk => (OF.out.lt k hk).2)
    have of1 := OF.out.below b1
    have hA10 := fva.size.1
    have hA1 := fva.size.2
    have FV := Lib.hid fva
    have OF1 := Lib.hid of1
    have BW1 := Lib.hid (BW.out.trans (b1.mono BW.out.size))
    clear fo of1 fva b1 HG OF BW
    simp only []
    by_cases h64 : out.length = 64
    case pos =>
      have hgo := GO2.out
      rw [if_pos h64, if_pos (by decide)] at hgo
      subst hgo
      have q64 : ((out.length : Int) == 64) = true := by rw [beq_iff_eq]; omega
      have H64 := Lib.hid h64
      clear h64 GO2
      go_wp2_with fail
      go_ret2
      exact ⟨_, rfl, OwnFs.nil _ _ _, BW1.out.alloc BW1.out.size _⟩
    have q64 : ((out.length : Int) == 64) = false := by rw [beq_eq_false_iff_ne]; omega
    by_cases he : er = 0
    case neg =>
      have hgo := GO2.out
      rw [if_neg h64, if_pos he] at hgo
      subst hgo
      have qe : (er != 0) = true := by simpa using he
      have H64 := Lib.hid h64
      have HE := Lib.hid he
      clear h64 GO2 he
      go_wp2_with fail
      go_ret2
      exact ⟨_, rfl, OwnFs.nil _ _ _, BW1.out.alloc BW1.out.size _⟩
    subst he
    have hgo := GO2.out
    rw [if_neg h64, if_neg (by decide)] at hgo
    have hm := HM.out rfl
    obtain ⟨out2, ho2⟩ : ∃ o, out ++ [f] = o := ⟨_, rfl⟩
    have kout : out2.length ≤ 64 := by rw [← ho2]; simp only [List.length_append, List.length_cons, List.length_nil]; omega
    rw [ho2] at hgo
    have GO3 := Lib.hid hgo
    have HO2 := Lib.hid ho2
    clear hgo GO2 HM ho2
    have hol2 : out.length + 1 ≤ 64 := by omega
    have H64 := Lib.hid h64
    clear h64
    have hcut : ∀ W, (Instr.sliceAt 25 (.slice a0 rest.length x0) (some (.int .i64 (many : Nat))) none none).run Try.prog W = .ok (.slice (cutA a0 many x0) (rest.length - many) (x0 - many)) W := fun W => by
      rw [cut_l TB W _ _ _ _ _ (by omega) (by omega), Int.toNat_natCast]
    have hsc := SR.out.cut many rest.length hm.2 (Nat.le_refl _)
    rw [List.take_length] at hsc
    have SC := Lib.hid hsc
    clear hsc
    have bA := (Below.refl w1.heap.size w1).alloc (Nat.le_refl _) (.cells A 28)
    have bB := (Below.refl (w1.alloc (.cells A 28)).heap.size (w1.alloc (.cells A 28))).alloc (Nat.le_refl _) (.cells A 28)
    have FV2 := Lib.hid ((FV.out.below bA).below bB)
    have OF2 := Lib.hid ((OF1.out.below bA).below bB)
    have RA := Lib.hid (show row? ((w1.alloc (.cells A 28)).alloc (.cells A 28)) (w1.heap.size + 1) = some A from row?_alloc_at _ _ _ _ (by simp))
    have BW2 := Lib.hid ((BW1.out.alloc BW1.out.size (.cells A 28)).alloc (by have := BW1.out.size; simp; omega) (.cells A 28))
    clear bA bB
    have hfold := fold_cells A hA10
    go_wp2_with (at_builtin; refine Classical.byContradiction ?_)
    intro hh; apply hh; clear hh
    refine app_fs rfl _ _ 32 rfl w.heap.size 28 i0 _ 144 Try.underlying32 hi0 hz0 rfl hz1 hz2 (by decide) (.slice a4 out.length x4) out rfl OF2.out (w1.heap.size + 1) 1 A f rfl RA.out FV2.out (by omega) (by have := BW2.out.size; exact this) ?_
    intro v5 w5 of5 g5
    rw [HO2.out] at of5
    obtain ⟨a5, x5, rfl⟩ := of5.shape
    have OF5 := Lib.hid of5
    have BW5 := Lib.hid (BW2.out.grown g5 BW2.out.size (fun k hk => (OF2.out.lt k hk).1))
    clear of5 g5 hfold
    go_wp2_with fail
    go_roundw
    case rel =>
      refine ⟨k, (rest.drop many), out2, by rw [List.length_drop]; omega, by rw [List.length_drop]; omega, ?_, OF5.out, kout, GO3.out, BW5.out⟩
      exact SC.out
    case measure => show lenOf (Value.slice _ _ _) < lenOf (Value.slice _ _ _); simp [lenOf]; omega
end Go.Proofs.Ytipniobgijdlkaa
end
