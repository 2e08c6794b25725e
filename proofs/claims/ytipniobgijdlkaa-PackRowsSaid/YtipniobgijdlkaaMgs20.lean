/- LibT; FrmJ2. -/
import Derived.Test.YtipniobgijdlkaaMgs19
import Derived.Test.YtipniobgijdlkaaMgs5
section
/- A slice of frames of the call's own, beside bytes of the call's own in another block; both are put to. -/
namespace Frm
open Go Go.RowKit Go.Rw Hdr
/-- As OwnFs; and nothing of it lies in the block g. -/
def OF2 (w : World) (N : Nat) (tF : TypeId) (v : Value) (fs : List Fr) (g : Option Nat) : Prop :=
  ∃ As : List (Array Value), As.length = fs.length ∧ w.ownsRow N tF 10 v fs.length (As.flatMap Array.toList) ∧ (∀ k, k < fs.length → FvA w v.ownBlock (As.getD k #[]) (fs.getD k fr0)) ∧
    (∀ k, k < fs.length → FvA w g (As.getD k #[]) (fs.getD k fr0)) ∧ ∀ k, v.ownBlock = some k → some k ≠ g
theorem OF2.fs {w : World} {N : Nat} {tF : TypeId} {v : Value} {fs : List Fr} {g : Option Nat} (h : OF2 w N tF v fs g) : OwnFs w N tF v fs := by
  obtain ⟨As, h1, h2, h3, _, _⟩ := h
  exact ⟨As, h1, h2, h3⟩
theorem OF2.nil (w : World) (N : Nat) (tF : TypeId) (g : Option Nat) : OF2 w N tF (.slice none 0 0) [] g :=
  ⟨[], rfl, World.ownsRow_nil _ _ _ _, fun k hk => by simp at hk, fun k hk => by simp at hk, fun k hk => by cases hk⟩
theorem OF2.below {w w' : World} {N : Nat} {tF : TypeId} {v : Value} {fs : List Fr} {g : Option Nat} (h : OF2 w N tF v fs g) (hb : Below w.heap.size w w') : OF2 w' N tF v fs g := by
  obtain ⟨As, hl, ho, hf, hf2, hne⟩ := h
  exact ⟨As, hl, ho.kept (row := none) ⟨hb.os, hb.tape, hb.output, hb.size, fun k hk _ => hb.block k hk⟩ (by cases v.ownBlock <;> simp), fun k hk => (hf k hk).below hb, fun k hk => (hf2 k hk).below hb, hne⟩
theorem FvA.other {w w' : World} {g g' : Option Nat} {A : Array Value} {f : Fr} (h : FvA w g A f) (h2 : FvA w g' A f) (hb : w.grownBy w' g) : FvA w' g' A f := by
  obtain ⟨vr, vd, vc, vt, rfl, ⟨h1, h2', h3, h4⟩, p1, p2, p3, p4⟩ := h
  obtain ⟨ur, ud, uc, ut, e, _, q1, q2, q3, q4⟩ := h2
  have e3 := congrArg (fun A : Array Value => A[3]?) e
  have e7 := congrArg (fun A : Array Value => A[7]?) e
  have e8 := congrArg (fun A : Array Value => A[8]?) e
  have e9 := congrArg (fun A : Array Value => A[9]?) e
  simp only [fvA_3, fvA_7, fvA_8, fvA_9, Option.some.injEq] at e3 e7 e8 e9
  subst e3 e7 e8 e9
  exact ⟨vr, vd, vc, vt, rfl, ⟨h1.grown hb p1, slGrown h2' hb p2, slGrown h3 hb p3, slGrown h4 hb p4⟩, q1, q2, q3, q4⟩
/-- The other block is put to, or laid anew. -/
theorem OF2.turn {w w' : World} {N : Nat} {tF : TypeId} {v : Value} {fs : List Fr} {g g' : Option Nat} (h : OF2 w N tF v fs g) (hb : w.grownBy w' g) (hg : g' = g ∨ ∀ k, g' = some k → w.heap.size ≤ k) : OF2 w' N tF v fs g' := by
  obtain ⟨As, hl, ho, hf, hf2, hne⟩ := h
  refine ⟨As, hl, ho.kept hb ?_, fun k hk => (hf2 k hk).other (hf k hk) hb, fun k hk => ?_, fun k hk => ?_⟩
  · cases hv : v.ownBlock with
    | none => exact .inl rfl
    | some k => exact .inr (hne k hv)
  · rcases hg with rfl | hg
    · exact (hf2 k hk).grown hb
    · exact (hf2 k hk).turn hb hg
  · rcases hg with rfl | hg
    · exact hne k hk
    · intro e
      have := hg k e.symm
      have := (ho.lt k hk).2
      omega
theorem app_fs2 {P : Program} {w : World} {ops : Array Oper} {rest : List Oper} {o : Oper} {a : Act} {Q : Exit → Act → World → Prop} (hgd : o.guard = none) (s x : Operand) (t : TypeId)
    (ho : o.op = .call { callee := .builtin .append, args := #[s, x], argTypes := #[t, t] })
    (base : Nat) (e : TypeId) (i : TypeInfo) (z : Value) (bytes : Nat) (ht : P.underlying t = some (.slice e)) (hi : P.info? e = some i) (hz : i.zero = some z) (hzz : z.cells.size = 10)
    (hsize : i.size = 10) (hby : i.bytes = bytes) (hb200 : bytes ≤ 200)
    (v : Value) (fs : List Fr) (g : Option Nat) (hs : a.eval s = v) (hown : OF2 w base e v fs g) (hgl : ∀ k, g = some k → k < w.heap.size)
    (b c : Nat) (A : Array Value) (f : Fr) (hx : a.eval x = .slice (some ⟨b, 0, none⟩) 1 c) (hA : row? w b = some A) (hf : FvA w v.ownBlock A f) (hf2 : FvA w g A f) (hlen : fs.length ≤ 100000) (hbase : base ≤ w.heap.size)
    (h : ∀ v' w', OF2 w' base e v' (fs ++ [f]) g → w.grownBy w' v.ownBlock → (v'.ownBlock = v.ownBlock ∨ ∀ k, v'.ownBlock = some k → w.heap.size ≤ k) → wpList P ops Q rest (a.put o.dst v') w') : wpList P ops Q (o :: rest) a w := by
  obtain ⟨As, hl, hro, hfs, hfs2, hne⟩ := hown
  refine wpList_plain hgd fun K hK => ?_
  have hA10 := hf.size.1
  have hA1 := hf.size.2
  obtain ⟨v', w', hr, h2, h3, h4⟩ := run_append_own2 (P := P) w base t o.type e i z 10 bytes ht hi hz hsize hby hzz (by decide) v fs.length (As.flatMap Array.toList) hro ⟨b, 0, none⟩ 1 c A.toList (by simp [hA10]) (by
    intro j u hj
    rw [Addr.add_lit, Nat.zero_add, row?_cell hA, ← Array.getElem?_toList]
    exact hj) (by
    intro u hu
    unfold allOne at hA1
    rw [Array.all_eq_true_iff_forall_mem] at hA1
    exact hA1 u (by simpa using hu)) (by unfold maxLen; omega) (by have : (fs.length + 1) * bytes ≤ 100001 * 200 := Nat.mul_le_mul (by omega) hb200; omega) hbase
  unfold Oper.wp execOp
  simp only [ho, resolve, invoke, builtin, Sem.run_bind, Sem.run_pure, Result.andThen_ok, List.map_toArray, List.map_cons, List.map_nil, hs, hx, hr]
  refine hK _ _ (h v' w' ?_ h3 h4)
  have hat : ∀ (T : Array Value → Fr → Prop), (∀ k, k < fs.length → T (As.getD k #[]) (fs.getD k fr0)) → T A f → ∀ k, k < (fs ++ [f]).length → T ((As ++ [A]).getD k #[]) ((fs ++ [f]).getD k fr0) := by
    intro T hT hTf k hk
    simp only [List.length_append, List.length_cons, List.length_nil] at hk
    by_cases hkl : k < fs.length
    · have e1 : (As ++ [A]).getD k #[] = As.getD k #[] := by simp [List.getD, List.getElem?_append_left (show k < As.length by omega)]
      have e2 : (fs ++ [f]).getD k fr0 = fs.getD k fr0 := by simp [List.getD, List.getElem?_append_left hkl]
      rw [e1, e2]
      exact hT k hkl
    · obtain rfl : k = fs.length := by omega
      have e1 : (As ++ [A]).getD fs.length #[] = A := by rw [← hl]; simp [List.getD]
      have e2 : (fs ++ [f]).getD fs.length fr0 = f := by simp [List.getD]
      rw [e1, e2]
      exact hTf
  refine ⟨As ++ [A], by simp [hl], ?_, ?_, ?_, ?_⟩
  · rw [List.flatMap_append, List.length_append]
    simpa using h2
  · refine hat (fun A f => FvA w' v'.ownBlock A f) (fun k hk => ?_) ?_
    · rcases h4 with h4 | h4
      · rw [h4]; exact (hfs k hk).grown h3
      · exact (hfs k hk).turn h3 h4
    · rcases h4 with h4 | h4
      · rw [h4]; exact hf.grown h3
      · exact hf.turn h3 h4
  · exact hat (fun A f => FvA w' g A f) (fun k hk => (hfs k hk).other (hfs2 k hk) h3) (hf.other hf2 h3)
  · intro k hk
    rcases h4 with h4 | h4
    · exact hne k (h4 ▸ hk)
    · intro eg
      have := h4 k hk
      have := hgl k eg.symm
      omega
theorem app_sl2 {P : Program} {w : World} {ops : Array Oper} {rest : List Oper} {o : Oper} {a : Act} {Q : Exit → Act → World → Prop} (hgd : o.guard = none) (s x : Operand) (t : TypeId)
    (ho : o.op = .call { callee := .builtin .append, args := #[s, x], argTypes := #[t, t] })
    (base : Nat) (e : TypeId) (i : TypeInfo) (ht : P.underlying t = some (.slice e)) (hi : P.info? e = some i) (hz : i.zero = some (.int .u8 0))
    (hsize : i.size = 1) (hby : i.bytes = 1)
    (v : Value) (l : List UInt8) (hs : a.eval s = v) (hown : w.ownsRow base e 1 v l.length (l.map bv))
    (u : Value) (m : List UInt8) (hx : a.eval x = u) (hu : Sl w u m) (hlen : l.length + m.length ≤ 2000000) (hbase : base ≤ w.heap.size)
    (h : ∀ v' w', w'.ownsRow base e 1 v' (l ++ m).length ((l ++ m).map bv) → w.grownBy w' v.ownBlock → (v'.ownBlock = v.ownBlock ∨ ∀ k, v'.ownBlock = some k → w.heap.size ≤ k) → wpList P ops Q rest (a.put o.dst v') w') : wpList P ops Q (o :: rest) a w := by
  obtain ⟨ao, cap, rfl, hc, hnn, hp⟩ := hu
  cases ao with
  | none =>
    obtain rfl := hnn rfl
    obtain rfl : m = [] := List.eq_nil_of_length_eq_zero (by omega)
    refine wpList_append_own_none hgd s x t ho base e i 1 ht hi v l.length (l.map bv) hs hown hx (h v w ?_ ⟨rfl, rfl, rfl, Nat.le_refl _, fun _ _ _ => rfl⟩ (.inl rfl))
    simpa using hown
  | some ad =>
    refine wpList_plain hgd fun K hK => ?_
    obtain ⟨v', w', hr, h2, h3, h4⟩ := run_append_own2 (P := P) w base t o.type e i (.int .u8 0) 1 1 ht hi hz hsize hby rfl (by decide) v l.length (l.map bv) hown ad m.length cap (m.map bv) (by simp) (by
      intro j u hj
      have hjl : j < m.length := by have := (List.getElem?_eq_some_iff.1 hj).1; simpa using this
      obtain ⟨b, off, e, hcell⟩ := hp (by omega)
      cases e
      rw [Addr.add_lit, hcell j hjl, ← hj]
      simp [nth, bv, n8, hjl]) (map_bv_one m) (by unfold maxLen; omega) (by omega) hbase
    unfold Oper.wp execOp
    simp only [ho, resolve, invoke, builtin, Sem.run_bind, Sem.run_pure, Result.andThen_ok, List.map_toArray, List.map_cons, List.map_nil, hs, hx, hr]
    refine hK _ _ (h v' w' ?_ h3 h4)
    rw [List.length_append, List.map_append]
    exact h2
end Frm
end
section
/- The frames that FrameJoins lays: each may be. -/
namespace Frm
open Go Go.RowKit Go.Rw Hdr
theorem put_most (f : Fr) (N : Nat) (h1 : f.rs.length ≤ N) (h2 : f.dat.length ≤ N) (h3 : f.cid.length ≤ N) (h4 : f.tok.length ≤ N) (h5 : f.k = 0 → f.n ≤ N) : f.put.length ≤ 200 + 20 * N := by
  have a1 := ackR_len f.rs (f.rs.length - 1)
  have a2 := vlen_le (rhi f.rs 0)
  have a3 := vlen_le f.d
  have a4 := vlen_le (f.rs.length - 1)
  have a5 := vlen_le (rhi f.rs 0 - rlo f.rs 0)
  have a6 := vlen_le f.i
  have a7 := vlen_le f.o
  have a8 := vlen_le f.dat.length
  have a9 := vlen_le f.n
  have b1 : (ackB f.d f.rs).length ≤ 40 := by
    unfold ackB
    rw [List.length_append, List.length_append, List.length_append, vP_length, vP_length, vP_length, vP_length]
    omega
  unfold Fr.put
  by_cases k0 : f.k = 0
  · rw [if_pos k0, List.length_replicate]; have := h5 k0; omega
  rw [if_neg k0]
  repeat' (first | (rw [if_pos ‹_›]) | split)
  all_goals try simp only [List.length_append, List.length_cons, List.length_nil, vP_length]
  all_goals try omega
/-- A frame that may be, is no padding, and is not long. -/
def GoodF (f : Fr) : Prop := f.may = true ∧ f.k ≠ 0 ∧ f.fits ∧ f.put.length ≤ 2000
theorem GoodF.laid {f : Fr} (h : GoodF f) : f.laid = f.put := by unfold Fr.laid; rw [if_pos h.1]
theorem good_of {f : Fr} (hm : f.may = true) (hk : f.k ≠ 0) (h1 : f.rs.length ≤ 80) (h2 : f.dat.length ≤ 80) (h3 : f.cid.length ≤ 80) (h4 : f.tok.length ≤ 80) : GoodF f :=
  ⟨hm, hk, ⟨by omega, by omega, by omega, by omega⟩, by have := put_most f 80 h1 h2 h3 h4 (fun e => absurd e hk); omega⟩
theorem good_1 : GoodF { fr0 with k := 1 } := good_of (by decide) (by decide) (by decide) (by decide) (by decide) (by decide)
theorem good_n (k : Int) (n : Nat) (hk : k = 16 ∨ k = 25 ∨ k = 28) (hn : n ≤ 4611686018427387903) : GoodF { fr0 with k := k, n := n } := by
  refine good_of ?_ (by show k ≠ 0; omega) (by simp [fr0]) (by simp [fr0]) (by simp [fr0]) (by simp [fr0])
  unfold Fr.may mayB
  dsimp only [fr0]
  rw [if_neg (by omega), if_neg (by omega), if_neg (by omega), if_neg (by omega), if_neg (by omega), if_pos hk]
  simp [plainB, hn]
theorem good_8 (n : Nat) (fin : Bool) (l : List UInt8) (hn : n ≤ 4611686018427387903) (hl : l.length ≤ 80) : GoodF { fr0 with k := 8, i := n, fin := fin, dat := l } := by
  refine good_of ?_ (by show (8 : Int) ≠ 0; omega) (by simp [fr0]) hl (by simp [fr0]) (by simp [fr0])
  unfold Fr.may mayB
  dsimp only [fr0]
  rw [if_neg (by omega), if_neg (by omega), if_neg (by omega), if_neg (by omega), if_pos rfl]
  simp [plainB, hn]
  omega
theorem good_6 (o : Nat) (l : List UInt8) (ho : o < 2305843009213693952) (hl : l.length ≤ 80) : GoodF { fr0 with k := 6, o := o, dat := l } := by
  refine good_of ?_ (by show (6 : Int) ≠ 0; omega) (by simp [fr0]) hl (by simp [fr0]) (by simp [fr0])
  unfold Fr.may mayB
  dsimp only [fr0]
  rw [if_neg (by omega), if_neg (by omega), if_neg (by omega), if_pos rfl]
  simp [plainB]
  omega
theorem good_2 (x n : Nat) (hx : x ≤ n) (hn : n ≤ 4611686018427387903) : GoodF { fr0 with k := 2, d := n, rs := [(x, n)] } := by
  refine good_of ?_ (by show (2 : Int) ≠ 0; omega) (by simp) (by simp [fr0]) (by simp [fr0]) (by simp [fr0])
  unfold Fr.may mayB
  dsimp only [fr0]
  rw [if_neg (by omega), if_neg (by omega), if_pos rfl]
  have h : rsOk [(x, n)] = true := by
    unfold rsOk rsAll rOk
    simp [List.range_succ]
    omega
  simp only [h]
  simp [plainB, hn]
theorem good_26 (l : List UInt8) (hl : l.length = 8) : GoodF { fr0 with k := 26, dat := l } := by
  refine good_of ?_ (by show (26 : Int) ≠ 0; omega) (by simp [fr0]) (by show l.length ≤ 80; omega) (by simp [fr0]) (by simp [fr0])
  unfold Fr.may mayB
  dsimp only [fr0]
  rw [if_neg (by omega), if_neg (by omega), if_neg (by omega), if_neg (by omega), if_neg (by omega), if_neg (by omega), if_neg (by omega), if_pos (by omega)]
  simp [plainB, hl]
theorem cat_len : ∀ (fs : List Fr), (∀ f, f ∈ fs → GoodF f) → (cat fs).length ≤ 2000 * fs.length := by
  intro fs
  induction fs with
  | nil => intro _; simp [cat]
  | cons f fs ih =>
    intro h
    have h1 := (h f List.mem_cons_self).2.2.2
    have h2 := ih (fun g hg => h g (List.mem_cons_of_mem _ hg))
    have e : cat (f :: fs) = f.put ++ cat fs := by simp [cat]
    rw [e, List.length_append, List.length_cons]
    omega
def zF : Array Value := fvA 0 0 0 (.slice none 0 0) 0 0 false (.slice none 0 0) (.slice none 0 0) (.slice none 0 0)
/-- A frame whose slices lie in no block below M, and in none of an empty frame. -/
def FvN (M : Nat) (w : World) (A : Array Value) (f : Fr) : Prop := ∀ g : Option Nat, (∀ k, g = some k → k < M ∨ row? w k = some zF) → FvA w g A f
theorem FvN.no {M : Nat} {w : World} {A : Array Value} {f : Fr} (h : FvN M w A f) : FvA w none A f := h none (fun k e => by cases e)
theorem FvN.below {M : Nat} {w w' : World} {A : Array Value} {f : Fr} (h : FvN M w A f) (hb : Below w.heap.size w w') : FvN M w' A f := by
  intro g hg
  cases g with
  | none => exact h.no.below hb
  | some k =>
    by_cases hk : k < w.heap.size
    · refine (h (some k) fun k' e => ?_).below hb
      cases e
      rcases hg k rfl with h1 | h1
      · exact .inl h1
      · right; rw [← row?_below hb hk]; exact h1
    · exact (h.no.new (g' := some k) (fun k' e => by cases e; omega)).below hb
theorem FvN.fv {M : Nat} {w : World} {A : Array Value} {f : Fr} (h : FvN M w A f) : Fv w (.agg A) f := h.no.fv
theorem FvN.size {M : Nat} {w : World} {A : Array Value} {f : Fr} (h : FvN M w A f) : A.size = 10 ∧ allOne A = true := h.no.size
theorem ap_nil (g : Option Nat) : Ap g (.slice none 0 0) := by intro b off n cap e; cases e
theorem ap_from {M B : Nat} {w : World} {R : Array Value} {g : Option Nat} {n c : Nat} (hg : ∀ k, g = some k → k < M ∨ row? w k = some zF) (hB : M ≤ B) (hr : row? w B = some R) (hR : 0 < n → R ≠ zF) : Ap g (.slice (some ⟨B, 0, none⟩) n c) := by
  intro b off n' cap e h0 e2
  injection e with e en ec
  injection e with e
  injection e with e
  subst e en
  rcases hg _ e2.symm with h1 | h1
  · omega
  · rw [hr] at h1; exact hR h0 (Option.some.inj h1)
theorem fvn_plain (M : Nat) (w : World) (k : Int) (n : Nat) : FvN M w (fvA k n 0 (.slice none 0 0) 0 0 false (.slice none 0 0) (.slice none 0 0) (.slice none 0 0)) { fr0 with k := k, n := n } := fun g _ =>
  ⟨_, _, _, _, rfl, ⟨Sr.nil _, Sl.nil _, Sl.nil _, Sl.nil _⟩, ap_nil g, ap_nil g, ap_nil g, ap_nil g⟩
theorem bvs_zF {l : List UInt8} (h : 0 < l.length) : bvs l ≠ zF := by
  intro e
  have e0 := congrArg (fun A : Array Value => A[0]?) e
  match l, h with
  | c :: l, _ =>
    have : (some (bv c) : Option Value) = some (.int .i64 0) := e0
    cases this
theorem fvn_dat {M B : Nat} {w : World} (k : Int) (i o : Nat) (fin : Bool) (l : List UInt8) (hB : M ≤ B) (hr : row? w B = some (bvs l)) :
    FvN M w (fvA k 0 0 (.slice none 0 0) i o fin (.slice (some ⟨B, 0, none⟩) l.length l.length) (.slice none 0 0) (.slice none 0 0)) { fr0 with k := k, i := i, o := o, fin := fin, dat := l } := fun g hg =>
  ⟨_, _, _, _, rfl, ⟨Sr.nil _, Sl.row hr, Sl.nil _, Sl.nil _⟩, ap_nil g, ap_from hg hB hr bvs_zF, ap_nil g, ap_nil g⟩
theorem fvn_rs {M B : Nat} {w : World} (k : Int) (d x y : Nat) (hB : M ≤ B) (hr : row? w B = some #[.int .u64 (x : Nat), .int .u64 (y : Nat)]) :
    FvN M w (fvA k 0 d (.slice (some ⟨B, 0, none⟩) 1 1) 0 0 false (.slice none 0 0) (.slice none 0 0) (.slice none 0 0)) { fr0 with k := k, d := d, rs := [(x, y)] } := fun g hg =>
  ⟨_, _, _, _, rfl, ⟨⟨_, 1, rfl, by simp, fun h => (by cases h), fun _ => ⟨B, 0, rfl, fun j hj => by
    simp only [List.length_cons, List.length_nil] at hj
    obtain rfl : j = 0 := by omega
    exact ⟨(row?_cell hr 0).trans rfl, (row?_cell hr 1).trans rfl⟩⟩⟩, Sl.nil _, Sl.nil _, Sl.nil _⟩, ap_from hg hB hr (fun _ e => by have := congrArg Array.size e; exact absurd this (by show ¬ (2 = 10); decide)), ap_nil g, ap_nil g, ap_nil g⟩
theorem grown_setRow (w : World) (B : Nat) (A : Array Value) : w.grownBy (w.setRow B A) (some B) := by
  have m : Mut B w (w.setRow B A) := (Mut.refl _ _).setRow A
  exact ⟨m.os, m.tape, m.output, m.size, fun k hk hne => m.block k hk (fun e => hne (by rw [e]))⟩
/-- A row of eight frames. -/
def Row8 (M : Nat) (w : World) (B : Nat) : Prop :=
  ∃ As : List (Array Value), As.length = 8 ∧ row? w B = some (As.flatMap Array.toList).toArray ∧ ∀ k, k < 8 → ∃ f, FvN M w (As.getD k #[]) f ∧ GoodF f
theorem Row8.stable {M : Nat} {w w' : World} {B : Nat} (h : Row8 M w B) (hb : Below w.heap.size w w') : Row8 M w' B := by
  obtain ⟨As, h1, h2, h3⟩ := h
  exact ⟨As, h1, Rg.stable_row hb h2, fun k hk => by obtain ⟨f, a, b⟩ := h3 k hk; exact ⟨f, a.below hb, b⟩⟩
theorem Row8.get {M : Nat} {w : World} {B : Nat} (h : Row8 M w B) (k : Nat) (hk : k < 8) : ∃ A f, FvN M w A f ∧ GoodF f ∧ A.size = 10 ∧ ∀ j, j < 10 → w.cell? ⟨B, k * 10 + j, none⟩ = A[j]? := by
  obtain ⟨As, h1, h2, h3⟩ := h
  obtain ⟨f, a, b⟩ := h3 k hk
  refine ⟨_, f, a, b, a.size.1, fun j hj => ?_⟩
  have hsz : ∀ q, q < As.length → (As.getD q #[]).size = 10 := fun q hq => by obtain ⟨_, x, _⟩ := h3 q (by omega); exact x.size.1
  rw [row?_cell h2, ← flat_get As k (by omega) hsz j hj]
  simp
/-- The promises of the operations that lay a frame. -/
def JD (M m : Nat) (v : Value) (w : World) : Prop := ∃ l B, v = .slice (some ⟨B, 0, none⟩) l.length l.length ∧ l.length = m ∧ M ≤ B ∧ row? w B = some (bvs l)
def JF (M : Nat) (v : Value) (w : World) : Prop := ∃ A f, v = .agg A ∧ FvN M w A f ∧ GoodF f
def JR (M x n : Nat) (v : Value) (w : World) : Prop := ∃ B, v = .slice (some ⟨B, 0, none⟩) 1 1 ∧ M ≤ B ∧ row? w B = some #[.int .u64 (x : Nat), .int .u64 (n : Nat)]
def JS (M : Nat) (v : Value) (w : World) : Prop := ∃ B, v = .slice (some ⟨B, 0, none⟩) 8 8 ∧ Row8 M w B
def JP (M j : Nat) (v : Value) (w : World) : Prop := ∃ B, v = .pointer (some ⟨B, j * 10, none⟩) ∧ Row8 M w B
def JZ (v : Value) (w : World) : Prop := ∃ B, v = .pointer (some ⟨B, 0, none⟩) ∧ row? w B = some zF
theorem JD.stable {M m : Nat} {v : Value} {w w' : World} (hb : Below w.heap.size w w') (h : JD M m v w) : JD M m v w' := by
  obtain ⟨l, B, h1, h2, h3, h4⟩ := h; exact ⟨l, B, h1, h2, h3, Rg.stable_row hb h4⟩
theorem JF.stable {M : Nat} {v : Value} {w w' : World} (hb : Below w.heap.size w w') (h : JF M v w) : JF M v w' := by
  obtain ⟨A, f, h1, h2, h3⟩ := h; exact ⟨A, f, h1, h2.below hb, h3⟩
theorem JR.stable {M x n : Nat} {v : Value} {w w' : World} (hb : Below w.heap.size w w') (h : JR M x n v w) : JR M x n v w' := by
  obtain ⟨B, h1, h2, h3⟩ := h; exact ⟨B, h1, h2, Rg.stable_row hb h3⟩
theorem JS.stable {M : Nat} {v : Value} {w w' : World} (hb : Below w.heap.size w w') (h : JS M v w) : JS M v w' := by
  obtain ⟨B, h1, h2⟩ := h; exact ⟨B, h1, h2.stable hb⟩
theorem JP.stable {M j : Nat} {v : Value} {w w' : World} (hb : Below w.heap.size w w') (h : JP M j v w) : JP M j v w' := by
  obtain ⟨B, h1, h2⟩ := h; exact ⟨B, h1, h2.stable hb⟩
theorem JZ.stable {v : Value} {w w' : World} (hb : Below w.heap.size w w') (h : JZ v w) : JZ v w' := by
  obtain ⟨B, h1, h2⟩ := h; exact ⟨B, h1, Rg.stable_row hb h2⟩
theorem ten_below {w w' : World} {b o : Nat} {A : Array Value} (h : ∀ j, j < 10 → w.cell? ⟨b, o + j, none⟩ = A[j]?) (hA : A.size = 10) (hb : Below w.heap.size w w') : ∀ j, j < 10 → w'.cell? ⟨b, o + j, none⟩ = A[j]? := by
  intro j hj
  have hs : A[j]? = some A[j] := Array.getElem?_eq_getElem (by omega)
  have hc := (h j hj).trans hs
  rw [hs]
  exact below_cell hb hc (cell_lt hc)
theorem meas {n i : Nat} (h : i < n) : n - (intOf (Value.int .i64 ((i : Int) + 1))).toNat < n - (intOf (Value.int .i64 (i : Nat))).toNat := by
  simp [intOf]; omega
end Frm
end
