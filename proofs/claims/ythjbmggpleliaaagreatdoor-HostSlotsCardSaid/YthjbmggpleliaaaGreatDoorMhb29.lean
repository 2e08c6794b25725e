/- LibSs; ShaW3; ShaW4; ShaW5; HkfA; HkfB; HkfC; HkfD. -/
import Derived.Test.YthjbmggpleliaaaGreatDoorMhb27
import Derived.Test.YthjbmggpleliaaaGreatDoorMhb4
import Derived.Test.YthjbmggpleliaaaGreatDoorMhb28
import Derived.Test.YthjbmggpleliaaaGreatDoorMhbLibI
import Derived.Test.YthjbmggpleliaaaGreatDoorMhb25
import Derived.Deep.DeepCutAuto
import Derived.Lib.AppendStr
section
namespace Go.Rg
open Go Go.RowKit Go.Rw
structure Stay (p : Prop) (_x : PLift p → Unit) : Prop where
 mk ::
 out : p
variable {P : Program} {ops : Array Oper} {RS : List FloS} {a0 : Act} {w0 : World}
def JC (v : Value) : Value → Nat → Nat → World → Prop := fun u _ _ _ => u = v
def JA (e : TypeId) (B : List UInt8) : Value → Nat → Nat → World → Prop := fun v lo hi w => w.ownsRow lo e 1 v B.length (B.map bv) ∧ ∀ b, v.ownBlock = some b → b < hi
def JB (N : Nat) (e : TypeId) (B : List UInt8) : Value → Nat → Nat → World → Prop := fun v _ _ w => w.ownsRow N e 1 v B.length (B.map bv)
def JSl (B : List UInt8) : Value → Nat → Nat → World → Prop := fun v _ _ w => Sl w v B
def JV (Z : Array Value) : Value → Nat → Nat → World → Prop := fun v lo hi w => v = .pointer (some ⟨lo, 0, none⟩) ∧ lo < hi ∧ row? w lo = some Z
theorem JC.sb {v : Value} : ∀ u lo hi w w', Below w.heap.size w w' → JC v u lo hi w → JC v u lo hi w' := fun _ _ _ _ _ _ h => h
theorem JA.sb {e : TypeId} {B : List UInt8} : ∀ u lo hi w w', Below w.heap.size w w' → JA e B u lo hi w → JA e B u lo hi w' := fun _ _ _ _ _ hb h => ⟨own_below h.1 hb, h.2⟩
theorem JB.sb {N : Nat} {e : TypeId} {B : List UInt8} : ∀ u lo hi w w', Below w.heap.size w w' → JB N e B u lo hi w → JB N e B u lo hi w' := fun _ _ _ _ _ hb h => own_below h hb
theorem JSl.sb {B : List UInt8} : ∀ u lo hi w w', Below w.heap.size w w' → JSl B u lo hi w → JSl B u lo hi w' := fun _ _ _ _ _ hb h => Sl.below h hb
theorem JV.sb {Z : Array Value} : ∀ u lo hi w w', Below w.heap.size w w' → JV Z u lo hi w → JV Z u lo hi w' := by
 rintro u lo hi w w' hb ⟨e, h1, h3⟩
 exact ⟨e, h1, stable_row hb h3⟩
def StS (N : Nat) (J : Value → Nat → Nat → World → Prop) : Prop := ∀ v lo hi l h w w', hi ≤ w.heap.size → N ≤ l → N ≤ w.heap.size → (hi ≤ l ∨ h ≤ lo) → Spare l h w w' → J v lo hi w → J v lo hi w'
theorem JC.ss {N : Nat} {v : Value} : StS N (JC v) := fun _ _ _ _ _ _ _ _ _ _ _ _ h => h
theorem row_spare {l h : Nat} {w w' : World} (sp : Spare l h w w') {b : Nat} {c : Array Value} (hr : row? w b = some c) (hb : b < l ∨ h ≤ b) : row? w' b = some c := by
 have h1 := row?_lt hr
 unfold row? at hr ⊢
 rw [sp.block b h1 hb]; exact hr
theorem JV.ss {N : Nat} {Z : Array Value} : StS N (JV Z) := by
 rintro v lo hi l h w w' - - - hd sp ⟨e, h1, h3⟩
 exact ⟨e, h1, row_spare sp h3 (by omega)⟩
theorem own_spare {l h lo hi : Nat} {w w' : World} {e : TypeId} {v : Value} {n : Nat} {xs : List Value} (sp : Spare l h w w') (ho : w.ownsRow lo e 1 v n xs) (hv : ∀ b, v.ownBlock = some b → b < hi) (hd : hi ≤ l ∨ h ≤ lo) : w'.ownsRow lo e 1 v n xs := by
 refine ⟨ho.1, ?_⟩
 rcases ho.2 with h' | ⟨g, cap, cur, e1, hb, hr, rest⟩
 ·exact .inl h'
 ·subst e1
  have h1 := hv g rfl
  have h2 : g < w.heap.size := (Array.getElem?_eq_some_iff.1 hr).1
  exact .inr ⟨g, cap, cur, rfl, hb, by rw [sp.block g h2 (by omega)]; exact hr, rest⟩
theorem JA.ss {N : Nat} {e : TypeId} {B : List UInt8} : StS N (JA e B) := fun _ _ _ _ _ _ _ _ _ _ hd sp h => ⟨own_spare sp h.1 h.2 hd, h.2⟩
def At (i k : Nat) (J : Value → Nat → Nat → World → Prop) : JS := fun us lo hi w => J (us i) (lo k) (hi k) w
theorem At.congr {i k : Nat} {J : Value → Nat → Nat → World → Prop} : ∀ us us' lo lo' hi hi' w, (∀ j ∈ [i, k], us j = us' j ∧ lo j = lo' j ∧ hi j = hi' j) → At i k J us lo hi w → At i k J us' lo' hi' w := by
 intro us us' lo lo' hi hi' w h hj
 have h1 := h i (by simp)
 have h2 := h k (by simp)
 unfold At at hj ⊢
 rw [← h1.1, ← h2.2.1, ← h2.2.2]; exact hj
theorem At.sb {i k : Nat} {J : Value → Nat → Nat → World → Prop} (h : ∀ v lo hi w w', Below w.heap.size w w' → J v lo hi w → J v lo hi w') : ∀ us lo hi w w', Below w.heap.size w w' → At i k J us lo hi w → At i k J us lo hi w' := fun _ _ _ _ _ hb hj => h _ _ _ _ _ hb hj
theorem At.ss {N i k : Nat} {J : Value → Nat → Nat → World → Prop} (h : StS N J) : ∀ s (us : Nat → Value) (lo hi : Nat → Nat) (w w' : World), N ≤ lo s → (∀ j ∈ [i, k], N ≤ lo j ∧ lo j ≤ hi j ∧ hi j ≤ w.heap.size) → (∀ j ∈ [i, k], hi j ≤ lo s ∨ hi s ≤ lo j) → Spare (lo s) (hi s) w w' → At i k J us lo hi w → At i k J us lo hi w' := fun s us lo hi w w' h1 h2 h3 sp hj =>
 h _ _ _ _ _ w w' (h2 k (by simp)).2.2 h1 (by have := h2 k (by simp); omega) (h3 k (by simp)) sp hj
def JSt (p q : Nat) : JS := fun us lo hi w => ∃ H, us q = .agg H ∧ us p = .pointer (some ⟨lo p, 0, none⟩) ∧ lo p < hi p ∧ row? w (lo p) = some H
theorem JSt.congr {i p q : Nat} : ∀ us us' lo lo' hi hi' w, (∀ j ∈ [i, p, q], us j = us' j ∧ lo j = lo' j ∧ hi j = hi' j) → JSt p q us lo hi w → JSt p q us' lo' hi' w := by
 intro us us' lo lo' hi hi' w h hj
 have h1 := h p (by simp)
 have h2 := h q (by simp)
 unfold JSt at hj ⊢
 rw [← h1.1, ← h1.2.1, ← h1.2.2, ← h2.1]; exact hj
theorem JSt.sb {p q : Nat} : ∀ us lo hi w w', Below w.heap.size w w' → JSt p q us lo hi w → JSt p q us lo hi w' := by
 rintro us lo hi w w' hb ⟨H, e1, e2, e3, e4⟩
 exact ⟨H, e1, e2, e3, stable_row hb e4⟩
theorem JSt.ss {N i p q : Nat} : ∀ s (us : Nat → Value) (lo hi : Nat → Nat) (w w' : World), N ≤ lo s → (∀ j ∈ [i, p, q], N ≤ lo j ∧ lo j ≤ hi j ∧ hi j ≤ w.heap.size) → (∀ j ∈ [i, p, q], hi j ≤ lo s ∨ hi s ≤ lo j) → Spare (lo s) (hi s) w w' → JSt p q us lo hi w → JSt p q us lo hi w' := by
 rintro s us lo hi w w' h1 h2 h3 sp ⟨H, e1, e2, e3, e4⟩
 have := h3 p (by simp)
 exact ⟨H, e1, e2, e3, row_spare sp e4 (by omega)⟩
theorem upd_self {us : Nat → Value} {i : Nat} {v : Value} : upd us i v i = v := by simp [upd]
theorem upd_ne {us : Nat → Value} {i j : Nat} {v : Value} (h : j ≠ i) : upd us i v j = us j := by simp [upd, h]
theorem updN_self {f : Nat → Nat} {i v : Nat} : updN f i v i = v := by simp [updN]
theorem updN_ne {f : Nat → Nat} {i j v : Nat} (h : j ≠ i) : updN f i v j = f j := by simp [updN, h]
theorem At.self {i : Nat} {J : Value → Nat → Nat → World → Prop} {us : Nat → Value} {lo hi : Nat → Nat} {v : Value} {a b : Nat} {w : World} (h : J v a b w) : At i i J (upd us i v) (updN lo i a) (updN hi i b) w := by
 unfold At
 rw [upd_self, updN_self, updN_self]; exact h
theorem At.pass {i o : Nat} {J : Value → Nat → Nat → World → Prop} {us : Nat → Value} {lo hi : Nat → Nat} {v : Value} {a b : Nat} {w : World} (hne : o ≠ i) (h : J v (lo o) (hi o) w) : At i o J (upd us i v) (updN lo i a) (updN hi i b) w := by
 unfold At
 rw [upd_self, updN_ne hne, updN_ne hne]; exact h
theorem es_gen (i : Nat) (d : Tmp) (eats : List Nat) (ds deps uses : List Nat) (J : JS) (hd : (ops.toList.getD i default).dst = some d)
  (hx : ∀ us lo hi w, Below w0.heap.size w0 w → DepS RS w0 deps us lo hi w → ∃ v w', (execOp (puts us (RS.map FloS.flo) a0).eval (ops.toList.getD i default)).run P w = .ok (.value v) w' ∧ J (upd us i v) (updN lo i w.heap.size) (updN hi i w'.heap.size) w' ∧ Below w.heap.size w w') :
  ExecS P ops RS a0 w0 ⟨i, d, ds, deps, none, eats, uses, J⟩ := by
 intro us lo hi w hb hdep K hK
 obtain ⟨v, w', hr, hj, hb'⟩ := hx us lo hi w hb hdep
 show (ops.toList.getD i default).wp P (puts us (RS.map FloS.flo) a0) w K NoQ
 refine exec_value hr ?_
 rw [hd]
 exact hK v w' hj (fun _ => hb') (fun s h => by cases h)
theorem es_load (i : Nat) (d : Tmp) (eats : List Nat) (ds deps : List Nat) {t : TypeId} {x : Operand} {xv v : Value} (hd : (ops.toList.getD i default).dst = some d) (ho : (ops.toList.getD i default).op = .load t x) (ha : ∀ us, (puts us (RS.map FloS.flo) a0).eval x = xv)
  (hs : ∀ w, Below w0.heap.size w0 w → (Instr.loadAt t xv).run P w = .ok v w) : ExecS P ops RS a0 w0 ⟨i, d, ds, deps, none, eats, [i, i], At i i (JC v)⟩ :=
 es_gen i d eats ds deps _ _ hd fun us lo hi w hb _ => ⟨v, w, run_exec_load ho (ha us) (hs w hb), At.self rfl, Below.refl _ _⟩
theorem es_alloc (i : Nat) (d : Tmp) (eats : List Nat) (ds deps : List Nat) {t : TypeId} {Z : Array Value} (hd : (ops.toList.getD i default).dst = some d) (ho : (ops.toList.getD i default).op = .alloc t)
  (hs : ∀ w, (Instr.alloc t true (.tuple #[])).run P w = .ok (.pointer (some ⟨w.heap.size, 0, none⟩)) (w.alloc (.cells Z t))) : ExecS P ops RS a0 w0 ⟨i, d, ds, deps, none, eats, [i, i], At i i (JV Z)⟩ :=
 es_gen i d eats ds deps _ _ hd fun us lo hi w _ _ => ⟨_, _, run_exec_alloc ho (hs w), At.self ⟨rfl, by simp, row?_alloc_at _ _ _ _ rfl⟩, (Below.refl _ _).alloc (Nat.le_refl _) _⟩
theorem es_call (i : Nat) (d : Tmp) (eats : List Nat) (ds deps uses : List Nat) (J : Value → Nat → Nat → World → Prop) {f : FuncId} {xs : Array Operand} {ts : Array TypeId} {args : (Nat → Value) → Array Value} (hd : (ops.toList.getD i default).dst = some d)
  (hcf : ∀ args w, (callFunc f args).run P w = .ok (.enter f args) w) (ho : (ops.toList.getD i default).op = .call { callee := .value (.func f), args := xs, argTypes := ts })
  (ha : ∀ us, xs.map (puts us (RS.map FloS.flo) a0).eval = args us)
  (hc : ∀ us lo hi w, Below w0.heap.size w0 w → DepS RS w0 deps us lo hi w → Calls P f (args us) w fun e w' => ∃ v, e = .returned v ∧ J v w.heap.size w'.heap.size w' ∧ Below w.heap.size w w') : ExecS P ops RS a0 w0 ⟨i, d, ds, deps, none, eats, uses, At i i J⟩ := by
 intro us lo hi w hb hdep K hK
 show (ops.toList.getD i default).wp P (puts us (RS.map FloS.flo) a0) w K NoQ
 refine exec_fun hcf ho (ha us) (hc us lo hi w hb hdep) ?_
 rintro e w' ⟨v, rfl, hj, hb'⟩
 refine ⟨v, rfl, ?_⟩
 rw [hd]
 exact hK v w' (At.self hj) (fun _ => hb') (fun s h => by cases h)
theorem puts_size (us : Nat → Value) : ∀ (R : List Flo) (a : Act), (puts us R a).tmps.size = a.tmps.size
 | [], _ => rfl
 | r :: R, a => by rw [puts, puts_size us R]; simp [Act.put]
theorem put_out (a : Act) (d : Tmp) (v : Value) (h : a.tmps.size ≤ d) : a.put (some d) v = a := by
 cases a
 simp only [Act.put]
 congr 1
 apply Array.ext_getElem?
 intro i
 rw [Array.getElem?_setIfInBounds]
 split
 ·rename_i h2; subst h2
  rw [if_neg (by simpa using h)]
  exact (Array.getElem?_eq_none (by simpa using h)).symm
 ·rfl
theorem es_store (i : Nat) (d : Tmp) (eats : List Nat) (ds : List Nat) (qp qv : FloS) (p v o : Nat) (Jv : Value → Nat → Nat → World → Prop) (G : Array Value → Prop) {t : TypeId} {Z : Array Value} {x y : Operand} (hsz : Nat.ble a0.tmps.size d = true) (hd : (ops.toList.getD i default).dst = none)
  (ho : (ops.toList.getD i default).op = .store t x y) (hx : ∀ us, (puts us (RS.map FloS.flo) a0).eval x = us p) (hy : ∀ us, (puts us (RS.map FloS.flo) a0).eval y = us v)
  (hp : qp ∈ RS) (hpi : qp.i = p) (hpj : qp.J = At p p (JV Z)) (hv : qv ∈ RS) (hvi : qv.i = v) (hvj : qv.J = At v o Jv) (hip : p ≠ i) (hiv : v ≠ i) (hagg : ∀ u lo hi w, Jv u lo hi w → ∃ H, u = .agg H ∧ G H)
  (hs : ∀ w b (H : Array Value), row? w b = some Z → G H → (Instr.storeAt t (.pointer (some ⟨b, 0, none⟩)) (.agg H)).run P w = .ok () (w.setRow b H)) : ExecS P ops RS a0 w0 ⟨i, d, ds, [p, v], some p, eats, [i, p, v], JSt p v⟩ := by
 intro us lo hi w hb hdep K hK
 have j1 := (hdep qp hp (by rw [hpi]; simp)).1
 have j2 := (hdep qv hv (by rw [hvi]; simp)).1
 rw [hpj] at j1
 rw [hvj] at j2
 obtain ⟨e1, e2, e3⟩ := j1
 obtain ⟨H, e4, e5⟩ := hagg _ _ _ _ j2
 show (ops.toList.getD i default).wp P (puts us (RS.map FloS.flo) a0) w K NoQ
 have hrun := hs w (lo p) H e3 e5
 have hlt := row?_lt e3
 have hk := hK undef (w.setRow (lo p) H) ?_ (fun h => by cases h) (fun s h => ?_)
 ·rw [put_out _ _ _ (by rw [puts_size]; exact Nat.le_of_ble_eq_true hsz)] at hk
  have h1 := hx us
  have h2 := hy us
  generalize (puts us (RS.map FloS.flo) a0) = aa at h1 h2 hk ⊢
  generalize ops.toList.getD i default = oo at ho hd ⊢
  rw [e1] at h1
  rw [e4] at h2
  unfold Oper.wp
  simp only [execOp, ho, h1, h2, Sem.run_bind, hrun, Result.andThen_ok]
  simp only [Sem.run_pure, Oper.upon]
  rw [hd]
  exact hk
 ·refine ⟨H, by rw [upd_ne hiv]; exact e4, by rw [upd_ne hip, updN_ne hip]; exact e1, by rw [updN_ne hip, updN_ne hip]; exact e2, ?_⟩
  rw [updN_ne hip]
  exact row?_setRow_eq e3
 ·obtain rfl : p = s := by injection h
  have m : Mut (lo p) w (w.setRow (lo p) H) := (Mut.refl _ _).setRow _
  exact ⟨m.os, m.tape, m.output, m.size, fun k hk hq => m.block k hk (by omega)⟩
end Go.Rg

end
section
namespace Go.Proofs.YthjbmggpleliaaaGreatDoor
open Go.RowKit Go.Rw Aes
def Glob (w : World) : Prop := row? w 0 = some (ivs [256, 512, 1024]) ∧ (∃ l, l.length = 8 ∧ row? w 1 = some (qs l)) ∧ ∃ l, l.length = 64 ∧ row? w 2 = some (qs l)
theorem Glob.lt {w : World} (h : Glob w) : 3 ≤ w.heap.size := by
 obtain ⟨_, _, l, _, h2⟩ := h
 have := row?_lt h2; omega
theorem Glob.low {w w' : World} {N : Nat} (h : Glob w) (hb : Below N w w') (hN : 3 ≤ N) : Glob w' := by
 obtain ⟨h0, ⟨l, h1, h2⟩, l', h3, h4⟩ := h
 exact ⟨by rw [row?_below hb (by omega)]; exact h0, ⟨l, h1, by rw [row?_below hb (by omega)]; exact h2⟩, l', h3, by rw [row?_below hb (by omega)]; exact h4⟩
theorem Glob.below {w w' : World} (h : Glob w) (hb : Below w.heap.size w w') : Glob w' := h.low hb h.lt
theorem Glob.keep {S : Nat → Prop} {w w' : World} (h : Glob w) (hm : MutS S w w') (hS : ∀ k, S k → 3 ≤ k) : Glob w' := h.low (hm.lower hS h.lt) (Nat.le_refl _)
theorem Glob.drew {w : World} (h : Glob w) : Glob w.drew := h
def buildQq (ps : Array (Nat × Value)) : Sem Value := Instr.build 247 ps
theorem bdQq (ps : Array (Nat × Value)) : Instr.build 247 ps = buildQq ps := rfl
theorem build8 (a b c d e f g h : Int) (w : World) : (buildQq #[(0, .int .u32 a), (1, .int .u32 b), (2, .int .u32 c), (3, .int .u32 d), (4, .int .u32 e), (5, .int .u32 f), (6, .int .u32 g), (7, .int .u32 h)]).run Tryz.prog w = .ok (.agg (qs [a, b, c, d, e, f, g, h])) w := Go.run_build w _ _ _ (by kernel_rfl)
attribute [local go_sem ↓] ld64w st64w al64w ld8w st8w al8w ld64b st64b al64b bvs_getElem? qs_getElem? bdQq
attribute [local go_sem] rld64w rst64w ral64w rld8w rst8w ral8w rld64b rst64b ral64b setRow_alloc_at setRow_alloc_past setRow_drew build8
theorem cfSched (args : Array Value) (w : World) : (callFunc 164 args).run Tryz.prog w = .ok (.enter 164 args) w := by kernel_rfl
def JQ (n : Nat) : Value → Nat → Nat → World → Prop := fun v _ _ _ => ∃ l : List Int, l.length = n ∧ v = .agg (qs l)
theorem JQ.sb {n : Nat} : ∀ u lo hi w w', Below w.heap.size w w' → JQ n u lo hi w → JQ n u lo hi w' := fun _ _ _ _ _ _ h => h
theorem JQ.ss {N n : Nat} : Rg.StS N (JQ n) := fun _ _ _ _ _ _ _ _ _ _ _ _ h => h
theorem JQ.agg {n : Nat} : ∀ u lo hi w, JQ n u lo hi w → ∃ H, u = .agg H ∧ (H.size = n ∧ allOne H = true) := by
 rintro u lo hi w ⟨l, h1, rfl⟩
 exact ⟨_, rfl, by rw [qs_size, h1], qs_all _⟩
theorem list8 : ∀ {l : List Int}, l.length = 8 → ∃ a b c d e f g h, l = [a, b, c, d, e, f, g, h]
 | [a, b, c, d, e, f, g, h], _ => ⟨a, b, c, d, e, f, g, h, rfl⟩
theorem cell8 {w : World} {B : Nat} {a b c d e f g h : Int} (hr : row? w B = some (qs [a, b, c, d, e, f, g, h])) : w.cell? ⟨B, 0, none⟩ = some (.int .u32 a) ∧ w.cell? ⟨B, 1, none⟩ = some (.int .u32 b) ∧ w.cell? ⟨B, 2, none⟩ = some (.int .u32 c) ∧ w.cell? ⟨B, 3, none⟩ = some (.int .u32 d) ∧ w.cell? ⟨B, 4, none⟩ = some (.int .u32 e) ∧ w.cell? ⟨B, 5, none⟩ = some (.int .u32 f) ∧ w.cell? ⟨B, 6, none⟩ = some (.int .u32 g) ∧ w.cell? ⟨B, 7, none⟩ = some (.int .u32 h) :=
 ⟨row?_cell hr 0, row?_cell hr 1, row?_cell hr 2, row?_cell hr 3, row?_cell hr 4, row?_cell hr 5, row?_cell hr 6, row?_cell hr 7⟩
def SI (w wr : World) (B5 B6 : Nat) (h0 l : List Int) : Prop := row? wr B5 = some (qs l) ∧ (∃ a b c d e f g h, row? wr B6 = some (qs [a, b, c, d, e, f, g, h])) ∧ row? wr w.heap.size = some (qs h0) ∧ row? wr (w.heap.size + 1 + 1) = some (qs [0, 0, 0, 0, 0, 0, 0, 0]) ∧ Below w.heap.size w wr
theorem SI.drew {w wr : World} {B5 B6 : Nat} {h0 l : List Int} (h : SI w wr B5 B6 h0 l) : SI w wr.drew B5 B6 h0 l := ⟨h.1, h.2.1, h.2.2.1, h.2.2.2.1, h.2.2.2.2.drew⟩
theorem SI.row {w wr : World} {B5 B6 : Nat} {h0 l : List Int} (h : SI w wr B5 B6 h0 l) (hne : B5 ≠ B6) (h6 : w.heap.size + 3 ≤ B6) (a b c d e f g i : Int) : SI w (wr.setRow B6 (qs [a, b, c, d, e, f, g, i])) B5 B6 h0 l := by
 obtain ⟨s5, ⟨_, _, _, _, _, _, _, _, s6⟩, s2, s4, sb⟩ := h
 exact ⟨(row?_setRow_ne _ _ _ _ hne).trans s5, ⟨a, b, c, d, e, f, g, i, row?_setRow_eq s6⟩, (row?_setRow_ne _ _ _ _ (by omega)).trans s2, (row?_setRow_ne _ _ _ _ (by omega)).trans s4, below_setRow sb (by omega) _⟩
theorem SI.cell {w wr : World} {B5 B6 : Nat} {h0 l : List Int} (h : SI w wr B5 B6 h0 l) (h5 : w.heap.size + 3 ≤ B5) (h6 : w.heap.size + 3 ≤ B6) (k : Nat) (x : Int) : SI w (wr.setCell ⟨w.heap.size, k, none⟩ (.int .u32 x)) B5 B6 (h0.set k x) l := by
 obtain ⟨s5, ⟨a, b, c, d, e, f, g, i, s6⟩, s2, s4, sb⟩ := h
 exact ⟨(row?_setCell_ne _ _ _ _ (by simp only; omega)).trans s5, ⟨a, b, c, d, e, f, g, i, (row?_setCell_ne _ _ _ _ (by simp only; omega)).trans s6⟩, (row?_setCell_eq s2 _).trans (congrArg some (qs_set _ _ _)), (row?_setCell_ne _ _ _ _ (by simp only; omega)).trans s4, sb.setCell (p := ⟨w.heap.size, k, none⟩) (by simp) _⟩
set_option maxRecDepth 100000 in
set_option maxHeartbeats 4000000 in
theorem step_any (h0 : List Int) (hh : h0.length = 8) (b : List UInt8) (hb : b.length = 64) (w : World) (hg : Glob w) :
  Calls Tryz.prog 139 #[.agg (qs h0), .agg (bvs b)] w fun e w' => (∃ l, l.length = 8 ∧ e = .returned (.agg (qs l))) ∧ Below w.heap.size w w' := by
 have hbs : (bvs b).size = 64 := by rw [bvs_size, hb]
 have hhs : (qs h0).size = 8 := by rw [qs_size, hh]
 have HB := Lib.hid hb
 have HHL := Lib.hid hh
 have HG := Lib.hid hg
 clear hb hh hg
 go_enter Tryz.func139, Tryz.ntmps139
 go_wp2_with fail
 have w1b := bm3 w (.cells (qs h0) 247) (.cells (bvs b) 249) (.cells (qs [0, 0, 0, 0, 0, 0, 0, 0]) 247)
 have r0 : row? (((w.alloc (.cells (qs h0) 247)).alloc (.cells (bvs b) 249)).alloc (.cells (qs [0, 0, 0, 0, 0, 0, 0, 0]) 247)) w.heap.size = some (qs h0) := by
  rw [row?_alloc_past _ _ _ (by simp; omega), row?_alloc_past _ _ _ (by simp)]; exact row?_alloc_at _ _ _ _ rfl
 have r1 : row? (((w.alloc (.cells (qs h0) 247)).alloc (.cells (bvs b) 249)).alloc (.cells (qs [0, 0, 0, 0, 0, 0, 0, 0]) 247)) (w.heap.size + 1) = some (bvs b) := by
  rw [row?_alloc_past _ _ _ (by simp)]; exact row?_alloc_at _ _ _ _ (by simp)
 have r2 : row? (((w.alloc (.cells (qs h0) 247)).alloc (.cells (bvs b) 249)).alloc (.cells (qs [0, 0, 0, 0, 0, 0, 0, 0]) 247)) (w.heap.size + 1 + 1) = some (qs [0, 0, 0, 0, 0, 0, 0, 0]) := row?_alloc_at _ _ _ _ (by simp)
 have z1 : (((w.alloc (.cells (qs h0) 247)).alloc (.cells (bvs b) 249)).alloc (.cells (qs [0, 0, 0, 0, 0, 0, 0, 0]) 247)).heap.size = w.heap.size + 3 := by simp
 generalize (((w.alloc (.cells (qs h0) 247)).alloc (.cells (bvs b) 249)).alloc (.cells (qs [0, 0, 0, 0, 0, 0, 0, 0]) 247)) = w1 at w1b r0 r1 r2 z1 ⊢
 have R0 := Lib.hid (show row? w1.drew w.heap.size = some (qs h0) from r0)
 have R1 := Lib.hid (show row? w1.drew (w.heap.size + 1) = some (bvs b) from r1)
 have RR := Lib.hid (And.intro r0 (And.intro r2 (And.intro w1b z1)))
 clear r0 r1 r2 w1b z1
 refine Rg.wp_region_inv9 [] [⟨0, 14, [], false, fun _ _ => True⟩, ⟨1, 15, [0], false, fun _ _ => True⟩, ⟨2, 16, [], false, fun _ _ => True⟩, ⟨3, 5, [], false, fun _ _ => True⟩, ⟨4, 6, [], false, fun _ _ => True⟩, ⟨5, 100005, [0, 1, 3, 4], false, fun _ _ => True⟩, ⟨6, 100006, [0, 1, 2, 3, 4, 5], false, fun _ _ => True⟩] [(0, 14, []), (1, 15, [0]), (2, 16, []), (3, 5, []), (4, 6, []), (5, 100005, [0, 1, 3, 4]), (6, 100006, [0, 1, 2, 3, 4, 5])] [5, 6] [] (by kernel_rfl) (by kernel_rfl) rfl (by kernel_rfl) ?_
 simp only [Rg.row, Rg.PT.map, List.getD_cons_zero, List.getD_cons_succ]
 refine Rg.plan_done ?_
 refine Rg.calm_normal ?_
 refine Rg.phase_spare (w0 := w1.drew) [⟨0, 14, [], [], none, [], [0, 0], Rg.At 0 0 (Rg.JC (.agg (bvs b)))⟩, ⟨1, 15, [0], [0], none, [], [1, 1], Rg.At 1 1 (JQ 64)⟩, ⟨2, 16, [], [], none, [], [2, 2], Rg.At 2 2 (Rg.JC (.agg (qs h0)))⟩, ⟨3, 5, [], [], none, [], [3, 3], Rg.At 3 3 (Rg.JV (qs (List.replicate 64 0)))⟩, ⟨4, 6, [], [], none, [], [4, 4], Rg.At 4 4 (Rg.JV (qs (List.replicate 8 0)))⟩, ⟨5, 100005, [0, 1, 3, 4], [3, 1], some 3, [3], [5, 3, 1], Rg.JSt 3 1⟩, ⟨6, 100006, [0, 1, 2, 3, 4, 5], [4, 2], some 4, [4], [6, 4, 2], Rg.JSt 4 2⟩] rfl (by kernel_rfl) ?_ ?_ ?_ ?_ ?_
 ·exact List.forall_mem_cons.2 ⟨Rg.At.congr (i := 0) (k := 0) (J := Rg.JC (.agg (bvs b))), List.forall_mem_cons.2 ⟨Rg.At.congr (i := 1) (k := 1) (J := JQ 64), List.forall_mem_cons.2 ⟨Rg.At.congr (i := 2) (k := 2) (J := Rg.JC (.agg (qs h0))), List.forall_mem_cons.2 ⟨Rg.At.congr (i := 3) (k := 3) (J := Rg.JV (qs (List.replicate 64 0))), List.forall_mem_cons.2 ⟨Rg.At.congr (i := 4) (k := 4) (J := Rg.JV (qs (List.replicate 8 0))), List.forall_mem_cons.2 ⟨Rg.JSt.congr, List.forall_mem_cons.2 ⟨Rg.JSt.congr, fun r hr => (by cases hr)⟩⟩⟩⟩⟩⟩⟩
 ·exact List.forall_mem_cons.2 ⟨Rg.At.sb (i := 0) (k := 0) Rg.JC.sb, List.forall_mem_cons.2 ⟨Rg.At.sb (i := 1) (k := 1) JQ.sb, List.forall_mem_cons.2 ⟨Rg.At.sb (i := 2) (k := 2) Rg.JC.sb, List.forall_mem_cons.2 ⟨Rg.At.sb (i := 3) (k := 3) Rg.JV.sb, List.forall_mem_cons.2 ⟨Rg.At.sb (i := 4) (k := 4) Rg.JV.sb, List.forall_mem_cons.2 ⟨Rg.JSt.sb, List.forall_mem_cons.2 ⟨Rg.JSt.sb, fun r hr => (by cases hr)⟩⟩⟩⟩⟩⟩⟩
 ·exact List.forall_mem_cons.2 ⟨fun _ _ s _ _ _ _ => Rg.At.ss (i := 0) (k := 0) Rg.JC.ss s, List.forall_mem_cons.2 ⟨fun _ _ s _ _ _ _ => Rg.At.ss (i := 1) (k := 1) JQ.ss s, List.forall_mem_cons.2 ⟨fun _ _ s _ _ _ _ => Rg.At.ss (i := 2) (k := 2) Rg.JC.ss s, List.forall_mem_cons.2 ⟨fun _ _ s _ _ _ _ => Rg.At.ss (i := 3) (k := 3) Rg.JV.ss s, List.forall_mem_cons.2 ⟨fun _ _ s _ _ _ _ => Rg.At.ss (i := 4) (k := 4) Rg.JV.ss s, List.forall_mem_cons.2 ⟨fun _ _ s _ _ _ _ => Rg.JSt.ss s, List.forall_mem_cons.2 ⟨fun _ _ s _ _ _ _ => Rg.JSt.ss s, fun r hr => (by cases hr)⟩⟩⟩⟩⟩⟩⟩
 ·refine List.forall_mem_cons.2 ⟨?_, List.forall_mem_cons.2 ⟨?_, List.forall_mem_cons.2 ⟨?_, List.forall_mem_cons.2 ⟨?_, List.forall_mem_cons.2 ⟨?_, List.forall_mem_cons.2 ⟨?_, List.forall_mem_cons.2 ⟨?_, fun r hr => (by cases hr)⟩⟩⟩⟩⟩⟩⟩
  ·with_reducible refine Rg.es_load 0 14 [] [] [] (t := 249) (x := .tmp 3) (xv := .pointer (some ⟨w.heap.size + 1, 0, none⟩)) (v := .agg (bvs b)) ?_ ?_ ?_ ?_
   ·kernel_rfl
   ·kernel_rfl
   ·intro us; kernel_rfl
   ·intro wx hbx
    have r := Rg.stable_row hbx R1.out
    have l := rld64b wx (w.heap.size + 1) (by rw [r, Option.map_some, hbs])
    rw [r, Option.getD_some] at l
    exact l
  ·with_reducible refine Rg.es_call 1 15 [] [0] [0] [1, 1] (JQ 64) (f := 164) (xs := #[.tmp 14]) (ts := #[249]) (args := fun us => #[us 0]) ?_ (fun args w => ?_) ?_ ?_ ?_
   ·kernel_rfl
   ·exact cfSched args w
   ·kernel_rfl
   ·intro us; kernel_rfl
   ·intro us lo hi wx hbx hdep
    have e0 : us 0 = .agg (bvs b) := (hdep _ (List.getElem_mem (n := 0) (by simp)) (by simp)).1
    show Calls Tryz.prog _ #[us 0] wx _
    rw [e0]
    refine (schedule_any b HB.out wx).mono ?_
    rintro e w' ⟨⟨l, hl, rfl⟩, hb⟩
    exact ⟨_, rfl, ⟨l, hl, rfl⟩, hb⟩
  ·with_reducible refine Rg.es_load 2 16 [] [] [] (t := 247) (x := .tmp 2) (xv := .pointer (some ⟨w.heap.size, 0, none⟩)) (v := .agg (qs h0)) ?_ ?_ ?_ ?_
   ·kernel_rfl
   ·kernel_rfl
   ·intro us; kernel_rfl
   ·intro wx hbx
    have r := Rg.stable_row hbx R0.out
    have l := rld8w wx w.heap.size (by rw [r, Option.map_some, hhs])
    rw [r, Option.getD_some] at l
    exact l
  ·with_reducible refine Rg.es_alloc 3 5 [] [] [] (t := 273) (Z := qs (List.replicate 64 0)) ?_ ?_ ?_
   ·kernel_rfl
   ·kernel_rfl
   ·exact fun wx => (congrArg (Sem.run Tryz.prog · wx) al64w).trans (ral64w wx)
  ·with_reducible refine Rg.es_alloc 4 6 [] [] [] (t := 247) (Z := qs (List.replicate 8 0)) ?_ ?_ ?_
   ·kernel_rfl
   ·kernel_rfl
   ·exact fun wx => (congrArg (Sem.run Tryz.prog · wx) al8w).trans (ral8w wx)
  ·with_reducible refine Rg.es_store 5 100005 [3] [0, 1, 3, 4] ⟨3, 5, [], [], none, [], [3, 3], Rg.At 3 3 (Rg.JV (qs (List.replicate 64 0)))⟩ ⟨1, 15, [0], [0], none, [], [1, 1], Rg.At 1 1 (JQ 64)⟩ 3 1 1 (JQ 64) (fun H => H.size = 64 ∧ allOne H = true) (t := 273) (Z := qs (List.replicate 64 0)) (x := .tmp 5) (y := .tmp 15) ?_ ?_ ?_ ?_ ?_ (List.getElem_mem (n := 3) (by simp)) rfl rfl (List.getElem_mem (n := 1) (by simp)) rfl rfl ?_ ?_ JQ.agg ?_
   ·kernel_rfl
   ·kernel_rfl
   ·kernel_rfl
   ·intro us; kernel_rfl
   ·intro us; kernel_rfl
   ·decide
   ·decide
   ·exact fun wx B H h1 h2 => rst64w wx B H (by rw [h1, Option.map_some, qs_size]; rfl) h2.1 h2.2
  ·with_reducible refine Rg.es_store 6 100006 [4] [0, 1, 2, 3, 4, 5] ⟨4, 6, [], [], none, [], [4, 4], Rg.At 4 4 (Rg.JV (qs (List.replicate 8 0)))⟩ ⟨2, 16, [], [], none, [], [2, 2], Rg.At 2 2 (Rg.JC (.agg (qs h0)))⟩ 4 2 2 (Rg.JC (.agg (qs h0))) (fun H => H.size = 8 ∧ allOne H = true) (t := 247) (Z := qs (List.replicate 8 0)) (x := .tmp 6) (y := .tmp 16) ?_ ?_ ?_ ?_ ?_ (List.getElem_mem (n := 4) (by simp)) rfl rfl (List.getElem_mem (n := 2) (by simp)) rfl rfl ?_ ?_ ?_ ?_
   ·kernel_rfl
   ·kernel_rfl
   ·kernel_rfl
   ·intro us; kernel_rfl
   ·intro us; kernel_rfl
   ·decide
   ·decide
   ·rintro u lo hi w rfl
    exact ⟨_, rfl, hhs, qs_all _⟩
   ·exact fun wx B H h1 h2 => rst8w wx B H (by rw [h1, Option.map_some, qs_size]; rfl) h2.1 h2.2
 ·intro us lo hi w2 hX hJ hbd hdj
  have j5 : Rg.JSt 3 1 us lo hi w2 := hJ _ (List.getElem_mem (n := 5) (by simp)) (by simp)
  have j6 : Rg.JSt 4 2 us lo hi w2 := hJ _ (List.getElem_mem (n := 6) (by simp)) (by simp)
  have j1 : ∃ l : List Int, l.length = 64 ∧ us 1 = .agg (qs l) := hJ _ (List.getElem_mem (n := 1) (by simp)) (by simp)
  have j2 : us 2 = .agg (qs h0) := hJ _ (List.getElem_mem (n := 2) (by simp)) (by simp)
  have d1 : hi 3 ≤ lo 4 ∨ hi 4 ≤ lo 3 := hdj _ (List.getElem_mem (n := 3) (by simp)) _ (List.getElem_mem (n := 4) (by simp)) (by simp)
  have b3 := (hbd _ (List.getElem_mem (n := 3) (by simp)))
  have b4 := (hbd _ (List.getElem_mem (n := 4) (by simp)))
  clear hJ hbd hdj
  refine Rg.calm_normal ?_
  simp only [Rg.puts, List.map_cons, List.map_nil]
  obtain ⟨l, hl, e1⟩ := j1
  obtain ⟨H5, e9, e12, hb12, hr5⟩ := j5
  obtain ⟨H6, e9', e12', hb12', hr6⟩ := j6
  rw [e9] at e1
  injection e1 with e1
  subst e1
  rw [e9'] at j2
  injection j2 with j2
  subst j2
  rw [e12, e12', e9, e9']
  have hne : lo 3 ≠ lo 4 := by omega
  have g5 : w1.drew.heap.size ≤ lo 3 := b3.1
  have g6 : w1.drew.heap.size ≤ lo 4 := b4.1
  generalize lo 3 = B5 at hr5 hne g5 ⊢
  generalize lo 4 = B6 at hr6 hne g6 ⊢
  generalize us 0 = u0
  have gz : w1.drew.heap.size = w.heap.size + 3 := RR.out.2.2.2
  rw [gz] at g5 g6
  have hb2 : Below w.heap.size w w2 := RR.out.2.2.1.drew.trans (hX.mono (by rw [gz]; omega))
  have q2 : row? w2 w.heap.size = some (qs h0) := by rw [row?_below hX (by rw [gz]; omega)]; exact RR.out.1
  have q4 : row? w2 (w.heap.size + 1 + 1) = some (qs [0, 0, 0, 0, 0, 0, 0, 0]) := by rw [row?_below hX (by rw [gz]; omega)]; exact RR.out.2.1
  have S0 : SI w w2 B5 B6 h0 l := by
   obtain ⟨a, b, c, d, e, f, g, h, rfl⟩ := list8 HHL.out
   exact ⟨hr5, ⟨a, b, c, d, e, f, g, h, hr6⟩, q2, q4, hb2⟩
  have HQ := Lib.hid (And.intro S0 (And.intro hne (And.intro g5 (And.intro g6 hl))))
  clear S0 hne g5 g6 hl hr5 hr6 q2 q4 hb2 gz e12 e12' e9 e9' hb12 hb12' b3 b4 d1 hX R0 R1 RR
  go_wp2_with fail
  go_loopw [7, 8, 9, 10, 11, 12, 17] (fun _ _ _ _ _ _ v wr => ∃ k : Nat, k ≤ 64 ∧ v = .int .i64 (k : Nat) ∧ SI w wr B5 B6 h0 l) (fun _ _ _ _ _ _ v _ => 64 - (intOf v).toNat)
  case atStart => exact ⟨0, by omega, rfl, HQ.out.1⟩
  case round =>
   obtain ⟨k, hk, rfl, HS⟩ := hrel
   by_cases hk64 : k < 64
   case neg =>
    have p1 : decide ((k : Int) < 64) = false := decide_eq_false (by omega)
    have HH := Lib.hid HS
    clear HS hk
    go_wp2_with fail
    go_loopw [13, 108] (fun _ v wr => ∃ (k : Nat) (h0 : List Int), k ≤ 8 ∧ v = .int .i64 (k : Nat) ∧ h0.length = 8 ∧ SI w wr B5 B6 h0 l) (fun _ v _ => 8 - (intOf v).toNat)
    case atStart => exact ⟨0, h0, by omega, rfl, HHL.out, HH.out⟩
    case round =>
     obtain ⟨k, h0, hk, rfl, h8, HS⟩ := hrel
     obtain ⟨s5, ⟨a, b, c, d, e, f, g, h, s6⟩, s2, s4, sb⟩ := HS
     by_cases hk8 : k < 8
     case neg =>
      have p1 : decide ((k : Int) < 8) = false := decide_eq_false (by omega)
      have l2 := rld8w wr w.heap.size (by rw [s2, Option.map_some, qs_size, h8])
      rw [s2, Option.getD_some] at l2
      have ls : (qs h0).size = 8 := by rw [qs_size, h8]
      have t2 := rst8w wr (w.heap.size + 1 + 1) (qs h0) (by rw [s4, Option.map_some]; rfl) ls (qs_all h0)
      have HH := Lib.hid (And.intro s4 (And.intro sb h8))
      clear s5 s6 s2 s4 sb hk h8
      go_wp2_with fail
      refine bodyPost_ret (results_row Ag8w rfl _ _ (w.heap.size + 1 + 1) (qs h0) rfl ?_ ls) rfl ?_
      ·exact row?_setRow_eq HH.out.1
      ·exact ⟨⟨h0, HH.out.2.2, rfl⟩, below_setRow HH.out.2.1 (by omega) _⟩
     have p1 : decide ((k : Int) < 8) = true := decide_eq_true (by omega)
     have c1 : wr.cell? ⟨w.heap.size, k, none⟩ = some (.int .u32 (qi h0 k)) := by rw [row?_cell s2, qs_getElem?, if_pos (by omega)]
     have c2 : wr.cell? ⟨B6, k, none⟩ = some (.int .u32 (qi [a, b, c, d, e, f, g, h] k)) := by rw [row?_cell s6, qs_getElem?, if_pos (by simpa using hk8)]
     have f1 := row?_frozen s2 k
     have GG := Lib.hid (And.intro s5 (And.intro s6 (And.intro s2 (And.intro s4 (And.intro sb (And.intro h8 hk8))))))
     clear s5 s6 s2 s4 sb h8 hk
     go_wp2_with fail
     refine Rg.wp_region_plan (Rg.row [(0, 3), (1, 3), (2, 0), (3, 3), (4, 3), (5, 0), (6, 3), (7, 3)] [8]) [8] (by kernel_rfl) (by kernel_rfl) ?_
     simp only [Rg.row, Rg.PT.map, List.map_cons, List.map_nil, List.getD_cons_zero, List.getD_cons_succ]
     go_wp2_with (first
      |(with_reducible refine Rg.plan_pure ?_ ?_ ?_); kernel_rfl; kernel_rfl; intro _ _|(with_reducible refine Rg.plan_take ?_ ?_ ?_); kernel_rfl; kernel_rfl; intro _ _|(with_reducible refine Rg.plan_keep ?_ ?_); kernel_rfl; intro K hK|refine hK _ _ (Rg.Keep.refl _) ?_; clear hK|refine hK _ _ (Rg.Keep.of_below (by assumption)) ?_; clear hK|(with_reducible refine Rg.plan_skip ?_ ?_); kernel_rfl|(with_reducible refine Rg.plan_done ?_)|(with_reducible refine Rg.calm_normal ?_))
     exact ⟨⟨k + 1, h0.set k _, by have := GG.out.2.2.2.2.2.2; omega, by push_cast; rfl, by simpa using GG.out.2.2.2.2.2.1, SI.cell (wr := wr) ⟨GG.out.1, ⟨a, b, c, d, e, f, g, h, GG.out.2.1⟩, GG.out.2.2.1, GG.out.2.2.2.1, GG.out.2.2.2.2.1⟩ HQ.out.2.2.1 HQ.out.2.2.2.1 k _ |>.drew⟩, meas_up GG.out.2.2.2.2.2.2 rfl⟩
   have p1 : decide ((k : Int) < 64) = true := decide_eq_true (by omega)
   obtain ⟨s5, ⟨x0, x1, x2, x3, x4, x5, x6, x7, s6⟩, s2, s4, sb⟩ := HS
   obtain ⟨c0, c1, c2, c3, c4, c5, c6, c7⟩ := cell8 s6
   obtain ⟨-, -, l', hl', k2⟩ := HG.out.below sb
   have ck : wr.cell? ⟨2, k, none⟩ = some (.int .u32 (qi l' k)) := by rw [row?_cell k2, qs_getElem?, if_pos (by omega)]
   have cx : wr.cell? ⟨B5, k, none⟩ = some (.int .u32 (qi l k)) := by rw [row?_cell s5, qs_getElem?, if_pos (by have := HQ.out.2.2.2.2; omega)]
   have HH := Lib.hid (And.intro s5 (And.intro s2 (And.intro s4 (And.intro sb hk64))))
   clear s5 s2 s4 sb hl' k2 hk
   go_wp2_with fail
   refine Rg.wp_region_plan (Rg.row [(0, 3), (1, 0), (3, 3), (4, 0), (7, 3), (8, 0), (2, 1), (5, 1), (6, 3), (9, 1), (10, 3), (11, 3)] []) [] (by kernel_rfl) (by kernel_rfl) ?_
   simp only [Rg.row, Rg.PT.map, List.map_nil, List.getD_cons_zero, List.getD_cons_succ]
   go_wp2_with (first
    |(with_reducible refine Rg.plan_pure ?_ ?_ ?_); kernel_rfl; kernel_rfl; intro _ _|(with_reducible refine Rg.plan_take ?_ ?_ ?_); kernel_rfl; kernel_rfl; intro _ _|(with_reducible refine Rg.plan_keep ?_ ?_); kernel_rfl; intro K hK|refine hK _ _ (Rg.Keep.refl _) ?_; clear hK|refine hK _ _ (Rg.Keep.of_below (by assumption)) ?_; clear hK|(with_reducible refine Rg.plan_skip ?_ ?_); kernel_rfl|(with_reducible refine Rg.plan_done ?_)|(with_reducible refine Rg.calm_normal ?_))
   refine (right_any _ 6 (by decide) _).mono ?_
   rintro e w3 ⟨⟨z3, rfl⟩, rfl⟩
   refine hK _ _ (Rg.Keep.refl _) ?_
   clear hK
   go_wp2_with (first
    |(with_reducible refine Rg.plan_pure ?_ ?_ ?_); kernel_rfl; kernel_rfl; intro _ _|(with_reducible refine Rg.plan_take ?_ ?_ ?_); kernel_rfl; kernel_rfl; intro _ _|(with_reducible refine Rg.plan_keep ?_ ?_); kernel_rfl; intro K hK|refine hK _ _ (Rg.Keep.refl _) ?_; clear hK|refine hK _ _ (Rg.Keep.of_below (by assumption)) ?_; clear hK|(with_reducible refine Rg.plan_skip ?_ ?_); kernel_rfl|(with_reducible refine Rg.plan_done ?_)|(with_reducible refine Rg.calm_normal ?_))
   refine (right_any _ 11 (by decide) _).mono ?_
   rintro e w4 ⟨⟨z4, rfl⟩, rfl⟩
   refine hK _ _ (Rg.Keep.refl _) ?_
   clear hK
   go_wp2_with (first
    |(with_reducible refine Rg.plan_pure ?_ ?_ ?_); kernel_rfl; kernel_rfl; intro _ _|(with_reducible refine Rg.plan_take ?_ ?_ ?_); kernel_rfl; kernel_rfl; intro _ _|(with_reducible refine Rg.plan_keep ?_ ?_); kernel_rfl; intro K hK|refine hK _ _ (Rg.Keep.refl _) ?_; clear hK|refine hK _ _ (Rg.Keep.of_below (by assumption)) ?_; clear hK|(with_reducible refine Rg.plan_skip ?_ ?_); kernel_rfl|(with_reducible refine Rg.plan_done ?_)|(with_reducible refine Rg.calm_normal ?_))
   refine (right_any _ 25 (by decide) _).mono ?_
   rintro e w5 ⟨⟨z5, rfl⟩, rfl⟩
   refine hK _ _ (Rg.Keep.refl _) ?_
   clear hK
   go_wp2_with (first
    |(with_reducible refine Rg.plan_pure ?_ ?_ ?_); kernel_rfl; kernel_rfl; intro _ _|(with_reducible refine Rg.plan_take ?_ ?_ ?_); kernel_rfl; kernel_rfl; intro _ _|(with_reducible refine Rg.plan_keep ?_ ?_); kernel_rfl; intro K hK|refine hK _ _ (Rg.Keep.refl _) ?_; clear hK|refine hK _ _ (Rg.Keep.of_below (by assumption)) ?_; clear hK|(with_reducible refine Rg.plan_skip ?_ ?_); kernel_rfl|(with_reducible refine Rg.plan_done ?_)|(with_reducible refine Rg.calm_normal ?_))
   refine Rg.wp_region_plan (Rg.row [(0, 3), (1, 0), (2, 3), (3, 3), (4, 3), (5, 3), (6, 3), (7, 3), (8, 0), (9, 3), (10, 3), (11, 3), (12, 0), (13, 3), (14, 3)] []) [] (by kernel_rfl) (by kernel_rfl) ?_
   simp only [Rg.row, Rg.PT.map, List.map_nil, List.getD_cons_zero, List.getD_cons_succ]
   go_wp2_with (first
    |(with_reducible refine Rg.plan_pure ?_ ?_ ?_); kernel_rfl; kernel_rfl; intro _ _|(with_reducible refine Rg.plan_take ?_ ?_ ?_); kernel_rfl; kernel_rfl; intro _ _|(with_reducible refine Rg.plan_keep ?_ ?_); kernel_rfl; intro K hK|refine hK _ _ (Rg.Keep.refl _) ?_; clear hK|refine hK _ _ (Rg.Keep.of_below (by assumption)) ?_; clear hK|(with_reducible refine Rg.plan_skip ?_ ?_); kernel_rfl|(with_reducible refine Rg.plan_done ?_)|(with_reducible refine Rg.calm_normal ?_))
   refine Rg.wp_region_plan (Rg.row [(0, 3), (1, 0), (3, 3), (4, 0), (7, 3), (8, 0), (2, 1), (5, 1), (6, 3), (9, 1), (10, 3), (11, 3)] []) [] (by kernel_rfl) (by kernel_rfl) ?_
   simp only [Rg.row, Rg.PT.map, List.map_nil, List.getD_cons_zero, List.getD_cons_succ]
   go_wp2_with (first
    |(with_reducible refine Rg.plan_pure ?_ ?_ ?_); kernel_rfl; kernel_rfl; intro _ _|(with_reducible refine Rg.plan_take ?_ ?_ ?_); kernel_rfl; kernel_rfl; intro _ _|(with_reducible refine Rg.plan_keep ?_ ?_); kernel_rfl; intro K hK|refine hK _ _ (Rg.Keep.refl _) ?_; clear hK|refine hK _ _ (Rg.Keep.of_below (by assumption)) ?_; clear hK|(with_reducible refine Rg.plan_skip ?_ ?_); kernel_rfl|(with_reducible refine Rg.plan_done ?_)|(with_reducible refine Rg.calm_normal ?_))
   refine (right_any _ 2 (by decide) _).mono ?_
   rintro e w6 ⟨⟨z6, rfl⟩, rfl⟩
   refine hK _ _ (Rg.Keep.refl _) ?_
   clear hK
   go_wp2_with (first
    |(with_reducible refine Rg.plan_pure ?_ ?_ ?_); kernel_rfl; kernel_rfl; intro _ _|(with_reducible refine Rg.plan_take ?_ ?_ ?_); kernel_rfl; kernel_rfl; intro _ _|(with_reducible refine Rg.plan_keep ?_ ?_); kernel_rfl; intro K hK|refine hK _ _ (Rg.Keep.refl _) ?_; clear hK|refine hK _ _ (Rg.Keep.of_below (by assumption)) ?_; clear hK|(with_reducible refine Rg.plan_skip ?_ ?_); kernel_rfl|(with_reducible refine Rg.plan_done ?_)|(with_reducible refine Rg.calm_normal ?_))
   refine (right_any _ 13 (by decide) _).mono ?_
   rintro e w7 ⟨⟨z7, rfl⟩, rfl⟩
   refine hK _ _ (Rg.Keep.refl _) ?_
   clear hK
   go_wp2_with (first
    |(with_reducible refine Rg.plan_pure ?_ ?_ ?_); kernel_rfl; kernel_rfl; intro _ _|(with_reducible refine Rg.plan_take ?_ ?_ ?_); kernel_rfl; kernel_rfl; intro _ _|(with_reducible refine Rg.plan_keep ?_ ?_); kernel_rfl; intro K hK|refine hK _ _ (Rg.Keep.refl _) ?_; clear hK|refine hK _ _ (Rg.Keep.of_below (by assumption)) ?_; clear hK|(with_reducible refine Rg.plan_skip ?_ ?_); kernel_rfl|(with_reducible refine Rg.plan_done ?_)|(with_reducible refine Rg.calm_normal ?_))
   refine (right_any _ 22 (by decide) _).mono ?_
   rintro e w8 ⟨⟨z8, rfl⟩, rfl⟩
   refine hK _ _ (Rg.Keep.refl _) ?_
   clear hK
   go_wp2_with (first
    |(with_reducible refine Rg.plan_pure ?_ ?_ ?_); kernel_rfl; kernel_rfl; intro _ _|(with_reducible refine Rg.plan_take ?_ ?_ ?_); kernel_rfl; kernel_rfl; intro _ _|(with_reducible refine Rg.plan_keep ?_ ?_); kernel_rfl; intro K hK|refine hK _ _ (Rg.Keep.refl _) ?_; clear hK|refine hK _ _ (Rg.Keep.of_below (by assumption)) ?_; clear hK|(with_reducible refine Rg.plan_skip ?_ ?_); kernel_rfl|(with_reducible refine Rg.plan_done ?_)|(with_reducible refine Rg.calm_normal ?_))
   exact ⟨⟨k + 1, by have := HH.out.2.2.2.2; omega, by push_cast; rfl, SI.row (wr := wr) ⟨HH.out.1, ⟨x0, x1, x2, x3, x4, x5, x6, x7, s6⟩, HH.out.2.1, HH.out.2.2.1, HH.out.2.2.2.1⟩ HQ.out.2.1 HQ.out.2.2.2.1 _ _ _ _ _ _ _ _ |>.drew.drew.drew⟩, meas_up HH.out.2.2.2.2 rfl⟩
end Go.Proofs.YthjbmggpleliaaaGreatDoor

end
section
namespace Go.Rw
open Go Go.RowKit
theorem below_grown {N : Nat} {r : Option Nat} {w w1 w2 : World} (h : Below N w w1) (hg : w1.grownBy w2 r) (hr : ∀ b, r = some b → N ≤ b) (hN : N ≤ w1.heap.size) : Below N w w2 :=
 ⟨hg.os.trans h.os, hg.tape.trans h.tape, hg.output.trans h.output, Nat.le_trans h.size hg.size, fun k hk => (hg.block k (Nat.lt_of_lt_of_le hk hN) (fun e => by have := hr k e.symm; omega)).trans (h.block k hk)⟩
end Go.Rw
namespace Go.Proofs.YthjbmggpleliaaaGreatDoor
open Go.RowKit Go.Rw Aes
def sliceLen (v : Value) : Nat := match v with | .slice _ m _ => m | _ => 0
theorem wrapU (n : Nat) (h : n < 18446744073709551616) : IntKind.u64.wrap (n : Int) = (n : Nat) := by
 simp [IntKind.wrap, IntKind.bits, IntKind.signed]
 omega
theorem mod8 (z : Int) : ∃ b : UInt8, z % 256 = ((n8 b : Nat) : Int) := by
 refine ⟨UInt8.ofNat (z % 256).toNat, ?_⟩
 rw [n8_ofNat _ (by omega)]
 omega
theorem own_len {w : World} {N n : Nat} {ao : Option Addr} {c : Nat} {l : List UInt8} (h : w.ownsRow N 5 1 (.slice ao l.length c) l.length (l.map bv)) (e : l.length = n) : OwnB w N (.slice ao n c) l := by
 subst e; exact h
theorem own_one (w : World) (N : Nat) (b : UInt8) (hN : N ≤ w.heap.size) : OwnB (w.alloc (.cells #[.int .u8 (n8 b : Nat)] 5)) N (.slice (some ⟨w.heap.size, 0, none⟩) 1 1) [b] :=
 own_of_RT (l := [b]) (RT.new w _ _ _ rfl) rfl hN (by omega)
set_option maxRecDepth 100000 in
set_option maxHeartbeats 2000000 in
theorem pad_any (n : Nat) (hn : n ≤ 1000000) (w : World) :
  Calls Tryz.prog 138 #[.int .i64 (n : Nat)] w fun e w' => ∃ v l, e = .returned v ∧ (n + l.length) % 64 = 0 ∧ l.length ≤ 72 ∧ OwnB w' w.heap.size v l ∧ Below w.heap.size w w' := by
 obtain ⟨i0, hi, hz0, hz1, hz2⟩ := info_parts info8
 have HN := Lib.hid hn
 clear hn
 go_enter Tryz.func138, Tryz.ntmps138
 go_wp2_with fail
 go_loopw [3] (fun v wr => ∃ l : List UInt8, 1 ≤ l.length ∧ l.length + (64 - (n + l.length + 8) % 64) % 64 ≤ 64 ∧ OwnB wr w.heap.size v l ∧ Below w.heap.size w wr) (fun v _ => (64 - (n + sliceLen v + 8) % 64) % 64)
 case atStart => exact ⟨[128], by simp, by simp; omega, own_one w _ 128 (Nat.le_refl _), (Below.refl _ _).alloc (Nat.le_refl _) _⟩
 case round =>
  obtain ⟨l, hl0, hl, ho, hb⟩ := hrel
  obtain ⟨ao, cap, rfl, -⟩ := id ho.sl
  have HO := Lib.hid ho
  have HB := Lib.hid hb
  have HL := Lib.hid (And.intro hl0 hl)
  obtain ⟨A, hA⟩ : ∃ A : Nat, n + l.length = A := ⟨_, rfl⟩
  obtain ⟨C, hC⟩ : ∃ C : Nat, A + 8 = C := ⟨_, rfl⟩
  have q : n < 18446744073709551616 ∧ l.length < 18446744073709551616 ∧ A < 18446744073709551616 ∧ C < 18446744073709551616 ∧ (n : Int) + (l.length : Nat) = (A : Nat) ∧ (A : Int) + 8 = (C : Nat) := by have := HN.out; omega
  have e1 : IntKind.u64.wrap (n : Int) = (n : Nat) := wrapU n q.1
  have e2 : IntKind.u64.wrap ((l.length : Nat) : Int) = (l.length : Nat) := wrapU _ q.2.1
  have e3 : IntKind.u64.wrap ((n : Int) + (l.length : Nat)) = (A : Nat) := by rw [q.2.2.2.2.1]; exact wrapU _ q.2.2.1
  have e4 : IntKind.u64.wrap ((A : Int) + 8) = (C : Nat) := by rw [q.2.2.2.2.2]; exact wrapU _ q.2.2.2.1
  have HC := Lib.hid (show n + l.length + 8 = C by omega)
  clear ho hb hl0 hl hA hC q
  by_cases hz : C % 64 = 0
  case pos =>
   have p1 : ((C : Int) % 64 != 0) = false := by rw [show ((C : Int) % 64) = 0 by omega]; rfl
   go_wp2_with fail
   have HZ := Lib.hid hz
   clear hz p1 e1 e2 e3 e4
   go_loopw [3, 4, 20] (fun v _ c wr => ∃ (k : Nat) (l' : List UInt8), k ≤ 8 ∧ c = .int .i64 (k : Nat) ∧ l'.length = l.length + k ∧ OwnB wr w.heap.size v l' ∧ Below w.heap.size w wr) (fun _ _ v _ => 8 - (intOf v).toNat)
   case atStart => exact ⟨0, l, by omega, rfl, rfl, HO.out, HB.out⟩
   case round =>
    clear HO HB
    obtain ⟨k, l', hk, rfl, hl', ho, hb⟩ := hrel
    obtain ⟨ao, cap, rfl, -⟩ := id ho.sl
    by_cases hk8 : k < 8
    case neg =>
     have p1 : decide ((k : Int) < 8) = false := decide_eq_false (by omega)
     obtain rfl : k = 8 := by omega
     have HO := Lib.hid ho
     have HB := Lib.hid hb
     clear ho hb hk
     go_wp2_with fail
     go_ret
     exact ⟨_, l', rfl, by have := HC.out; have := HZ.out; omega, by have := HL.out; omega, HO.out, HB.out⟩
    have p1 : decide ((k : Int) < 8) = true := decide_eq_true (by omega)
    obtain ⟨a, ha⟩ : ∃ a : Nat, 8 * k = a := ⟨_, rfl⟩
    obtain ⟨c, hc⟩ : ∃ c : Nat, 56 - a = c := ⟨_, rfl⟩
    obtain ⟨k1, hk1⟩ : ∃ k1 : Nat, k + 1 = k1 := ⟨_, rfl⟩
    have q : 8 * (k : Int) = (a : Nat) ∧ (56 : Int) - (a : Nat) = (c : Nat) ∧ (k : Int) + 1 = (k1 : Nat) ∧ a < 9000 ∧ c < 9000 ∧ k1 < 9000 := by omega
    have e2 := wrap_nat q.1 (by omega)
    have e3 := wrap_nat q.2.1 (by clear e2; omega)
    have e4 := wrap_nat q.2.2.1 (by clear e2 e3; omega)
    have e1 : IntKind.u64.wrap (n : Int) = (n : Nat) := wrapU n (by clear e2 e3 e4; have := HN.out; omega)
    have HO := Lib.hid ho
    have HB := Lib.hid hb
    have HK := Lib.hid (And.intro hk8 (And.intro hk1 hl'))
    clear ho hb hk hl' q ha hc hk1 hk8
    go_wp2_with (at_builtin; refine Classical.byContradiction ?_)
    obtain ⟨b, hb⟩ := mod8 (IntKind.u64.wrap (8 * (n : Int)) / 2 ^ min c 64)
    rw [hb]
    intro hh; apply hh; clear hh
    refine app_sl rfl _ _ 22 rfl w.heap.size 5 i0 Tryz.underlying22 hi hz0 hz1 hz2 _ l' rfl (own_below HO.out ((Below.refl _ _).alloc (Nat.le_refl _) _)) _ [b] rfl (Own.sl (own_one wr 0 b (Nat.zero_le _))) (by have := HL.out; have := HK.out; simp; omega) (by have := HB.out.size; simp; omega) ?_
    intro v3 w3 o3 g3
    obtain ⟨ao3, cap3, rfl, -⟩ := id (Own.sl o3)
    have O3 := Lib.hid (own_len o3 (n := l'.length + 1) (by simp))
    have G3 := Lib.hid g3
    clear o3 g3
    go_wp2_with fail
    exact ⟨⟨k1, l' ++ [b], by have := HK.out; omega, by rw [e4], by have := HK.out; simp; omega, O3.out, below_grown (HB.out.alloc HB.out.size _) G3.out (fun q e => (HO.out.lt q e).1) (by have := HB.out.size; simp; omega)⟩, meas_up HK.out.1 (by have := HK.out.2.1; omega)⟩
  have p1 : ((C : Int) % 64 != 0) = true := by
   rw [bne_iff_ne]; omega
  have HZ := Lib.hid hz
  clear hz
  go_wp2_with (at_builtin; refine Classical.byContradiction ?_)
  intro hh; apply hh; clear hh
  refine app_sl rfl _ _ 22 rfl w.heap.size 5 i0 Tryz.underlying22 hi hz0 hz1 hz2 _ l rfl (own_below HO.out ((Below.refl _ _).alloc (Nat.le_refl _) _)) _ [0] rfl (Own.sl (own_one wr 0 0 (Nat.zero_le _))) (by have := HL.out; simp; omega) (by have := HB.out.size; simp; omega) ?_
  intro v3 w3 o3 g3
  obtain ⟨ao3, cap3, rfl, -⟩ := id (Own.sl o3)
  have O3 := Lib.hid (own_len o3 (n := l.length + 1) (by simp))
  have G3 := Lib.hid g3
  clear o3 g3
  go_wp2_with fail
  have hmod : n + l.length + 8 = C ∧ C % 64 ≠ 0 := ⟨HC.out, HZ.out⟩
  exact ⟨⟨l ++ [0], by simp, by have := HL.out; simp only [List.length_append, List.length_singleton]; omega, O3.out, below_grown (HB.out.alloc HB.out.size _) G3.out (fun q e => (HO.out.lt q e).1) (by have := HB.out.size; simp; omega)⟩, by simp only [sliceLen]; omega⟩
end Go.Proofs.YthjbmggpleliaaaGreatDoor

end
section
namespace Go.Rw
open Go Go.RowKit
theorem load_sl {P : Program} {t n : Nat} (A : Agg P t n) {w : World} {b off len cap : Nat} {l : List UInt8} (hs : Sl w (.slice (some ⟨b, off, none⟩) len cap) l) (hn : n ≤ l.length) (h0 : 0 < n) :
  (Instr.loadAt t (.pointer (some ⟨b, off, none⟩))).run P w = .ok (.agg (bvs (l.take n))) w := by
 obtain ⟨d, hu, hd⟩ := A.und
 obtain ⟨ao, cap', e, hc, hnn, hp⟩ := hs
 injection e with e1 e2 e3
 subst e1
 obtain ⟨b', off', e', hcell⟩ := hp (by omega)
 injection e' with e'
 injection e' with e1 e2
 subst e1; subst e2
 refine run_loadAt_mid (P := P) w b off t ((l.take n).map bv) d (fun j v hv => ?_) hu hd (by rw [A.size]; simp; omega)
 have hj : j < n := by
  have := (List.getElem?_eq_some_iff.1 hv).1
  simp at this; omega
 rw [hcell j (by omega)]
 simp [hj, nth] at hv ⊢
 rw [List.getElem?_eq_getElem (by omega)] at hv ⊢
 simpa [bv, n8] using hv
theorem cut_block (b off lo cap n c : Nat) : (Value.slice (cutA (some ⟨b, off, none⟩) lo cap) n c).ownBlock = some b := by
 unfold cutA
 split
 ·rfl
 ·simp only [Value.ownBlock, Addr.add, Option.map_some]
  split <;> rfl
theorem Sl.setRow {w : World} {v : Value} {l : List UInt8} {B : Nat} {c : Array Value} (h : Sl w v l) (hb : ∀ q, v.ownBlock = some q → q < B) : Sl (w.setRow B c) v l :=
 ((MutS.refl (fun k => k = B) w).setRow B c (.inl rfl)).sl h fun b off n cap e _ => by subst e; have := hb b rfl; omega
theorem flat_take (ps : List (List UInt8)) (k : Nat) (h : k < ps.length) : (ps.take k).flatten ++ ps.getD k [] = (ps.take (k + 1)).flatten := by
 rw [List.take_add_one, List.flatten_append]
 simp [h]
theorem flat_le (ps : List (List UInt8)) (k : Nat) : (ps.take k).flatten.length ≤ ps.flatten.length := by
 have : ps.flatten = (ps.take k).flatten ++ (ps.drop k).flatten := by rw [← List.flatten_append, List.take_append_drop]
 rw [this]; simp
end Go.Rw
namespace Go.Proofs.YthjbmggpleliaaaGreatDoor
open Go.RowKit Go.Rw Aes
attribute [local go_sem ↓] ld64w st64w al64w ld8w st8w al8w ld64b st64b al64b ld32b st32b al32b bvs_getElem? qs_getElem?
attribute [local go_sem] rld64w rst64w ral64w rld8w rst8w ral8w rld64b rst64b ral64b rld32b rst32b ral32b setRow_alloc_at setRow_alloc_past setRow_drew
theorem ix8 (h : List Int) (hh : h.length = 8) (k : Nat) (hk : k < 8) (w : World) : ∃ z, (Instr.index 247 (.agg (qs h)) (.int .i64 (k : Nat))).run Tryz.prog w = .ok (.int .u32 z) w := by
 obtain ⟨a, b, c, d, e, f, g, i, rfl⟩ := list8 hh
 rcases (by omega : k = 0 ∨ k = 1 ∨ k = 2 ∨ k = 3 ∨ k = 4 ∨ k = 5 ∨ k = 6 ∨ k = 7) with rfl | rfl | rfl | rfl | rfl | rfl | rfl | rfl
 ·exact ⟨a, by kernel_rfl⟩
 ·exact ⟨b, by kernel_rfl⟩
 ·exact ⟨c, by kernel_rfl⟩
 ·exact ⟨d, by kernel_rfl⟩
 ·exact ⟨e, by kernel_rfl⟩
 ·exact ⟨f, by kernel_rfl⟩
 ·exact ⟨g, by kernel_rfl⟩
 ·exact ⟨i, by kernel_rfl⟩
set_option maxRecDepth 100000 in
set_option maxHeartbeats 2000000 in
theorem sum_any (ps : List (List UInt8)) (hps : ps.length ≤ 1000000) (hpl : ps.flatten.length ≤ 100000) (v : Value) (w : World) (hP : Pts w v ps) (hg : Glob w) :
  Calls Tryz.prog 103 #[v] w fun e w' => (∃ l, l.length = 32 ∧ e = .returned (.agg (bvs l))) ∧ Below w.heap.size w w' := by
 obtain ⟨i0, hi, hz0, hz1, hz2⟩ := info_parts info8
 obtain ⟨ao, cap, rfl, hp⟩ := hP
 have HG := Lib.hid hg
 clear hg
 go_enter Tryz.func103, Tryz.ntmps103
 go_wp2_with fail
 go_loopw [3, 5, 13] (fun m _ v wr => ∃ k : Nat, k ≤ ps.length ∧ v = .int .i64 k ∧ OwnB wr (w.heap.size + 1) m (ps.take k).flatten ∧ row? wr w.heap.size = some (bvs (zeros 32)) ∧ Below w.heap.size w wr) (fun _ _ v _ => ps.length - (intOf v).toNat)
 case atStart => exact ⟨0, by omega, rfl, ⟨rfl, .inl ⟨rfl, rfl⟩⟩, by simp [go_sem], (Below.refl _ _).alloc (Nat.le_refl _) _⟩
 case round =>
  obtain ⟨k, hk, rfl, ho, hr, hb⟩ := hrel
  obtain ⟨mo, mcap, rfl, -⟩ := id ho.sl
  by_cases hlt : k < ps.length
  ·have p1 : decide (k < ps.length) = true := decide_eq_true hlt
   obtain ⟨b, off, rfl, hc⟩ := hp (by omega)
   obtain ⟨u, hu, hs⟩ := hc k hlt
   have hfl0 := flat_take ps k hlt
   generalize ps.getD k [] = p at hs hfl0
   obtain ⟨uo, ucap, rfl, -⟩ := id hs
   have hcell := below_cell hb hu (cell_lt hu)
   have hs := hs.below hb
   have hfl := flat_le ps (k + 1)
   have HO := Lib.hid ho
   have HB := Lib.hid hb
   have HR := Lib.hid hr
   have HS := Lib.hid hs
   have HF := Lib.hid (And.intro hfl (And.intro hfl0 hlt))
   clear ho hb hr hs hc hu hfl hfl0 hk hp
   go_wp2_with (at_builtin; refine Classical.byContradiction ?_)
   intro hh; apply hh; clear hh
   refine app_sl rfl _ _ 22 rfl (w.heap.size + 1) 5 i0 Tryz.underlying22 hi hz0 hz1 hz2 (.slice mo (ps.take k).flatten.length mcap) _ rfl HO.out (.slice uo p.length ucap) _ rfl HS.out (by have := HF.out; rw [← List.length_append, this.2.1]; omega) (by have := row?_lt HR.out; omega) ?_
   rw [HF.out.2.1]
   intro v3 w3 o3 g3
   have O3 := Lib.hid o3
   have G3 := Lib.hid g3
   clear o3 g3
   go_wp2_with fail
   exact ⟨⟨k + 1, by have := HF.out; omega, by push_cast; rfl, O3.out, (row_grown G3.out HR.out (fun e => by have := (HO.out.lt _ e.symm).1; omega)), below_grown HB.out G3.out (fun q e => by have := (HO.out.lt q e).1; omega) HB.out.size⟩, meas_up HF.out.2.2 rfl⟩
  have p1 : decide (k < ps.length) = false := decide_eq_false hlt
  obtain rfl : k = ps.length := by omega
  rw [List.take_length] at ho
  have HO := Lib.hid ho
  have HB := Lib.hid hb
  have HR := Lib.hid hr
  rw [List.take_length]
  generalize ps.flatten = m at *
  have HF := Lib.hid hpl
  clear ho hb hr hk hp hpl hps
  go_wp2_with fail
  refine (pad_any m.length (by have := HF.out; omega) _).mono ?_
  rintro e w2 ⟨v2, l2, rfl, hl2, hl72, o2, b2⟩
  obtain ⟨ao2, cap2, rfl, -⟩ := id o2.sl
  have O2 := Lib.hid o2
  have B2 := Lib.hid b2
  have HL2 := Lib.hid (And.intro hl2 hl72)
  clear o2 b2 hl2 hl72
  go_wp2_with (at_builtin; refine Classical.byContradiction ?_)
  intro hh; apply hh; clear hh
  have hO2 := own_below HO.out (B2.out.mono (Nat.le_refl _))
  refine app_sl rfl _ _ 22 rfl (w.heap.size + 1) 5 i0 Tryz.underlying22 hi hz0 hz1 hz2 (.slice mo m.length mcap) m rfl hO2 (.slice ao2 l2.length cap2) l2 rfl O2.out.sl (by have := HF.out; have := HL2.out; omega) (by have := row?_lt HR.out; have := B2.out.size; omega) ?_
  intro v3 w3 o3 g3
  obtain ⟨ao3, cap3, rfl, -⟩ := id (Own.sl o3)
  have b3 : Below w.heap.size w w3 := below_grown (HB.out.trans (B2.out.mono HB.out.size)) g3 (fun q e => by have := (HO.out.lt q e).1; omega) (by have := HB.out.size; have := B2.out.size; omega)
  have r3 : row? w3 w.heap.size = some (bvs (zeros 32)) := row_grown g3 (by rw [row?_below B2.out (row?_lt HR.out)]; exact HR.out) (fun e => by have := (HO.out.lt _ e.symm).1; omega)
  have s3 : Sl w3 (.slice ao3 (m ++ l2).length cap3) (m ++ l2) := Own.sl o3
  have hml : (m ++ l2).length % 64 = 0 ∧ (m ++ l2).length ≤ 200000 := by have := HL2.out; have := HF.out; rw [List.length_append]; omega
  have hob : ∀ q, (Value.slice ao3 (m ++ l2).length cap3).ownBlock = some q → q < w3.heap.size := fun q e => (o3.lt q e).2
  clear o3 g3 O2 B2 HO hO2 HR HB HL2 HF
  generalize m ++ l2 = M at *
  obtain ⟨-, ⟨iv, hiv, hr1⟩, -⟩ := HG.out.below b3
  have hiz : (qs iv).size = 8 := by rw [qs_size, hiv]
  have ld := rld8w w3 1 (by rw [hr1, Option.map_some, hiz])
  rw [hr1, Option.getD_some] at ld
  have st : ∀ W : World, row? W w3.heap.size = some (qs (List.replicate 8 0)) → (storeAgg 247 (.pointer (some ⟨w3.heap.size, 0, none⟩)) (.agg (qs iv))).run Tryz.prog W = .ok () (W.setRow w3.heap.size (qs iv)) := fun W h => rst8w W w3.heap.size (qs iv) (by rw [h, Option.map_some]; rfl) hiz (qs_all iv)
  have R3 := Lib.hid r3
  have S3 := Lib.hid s3
  have B3 := Lib.hid b3
  have HM := Lib.hid hml
  have HI := Lib.hid hiv
  have HO := Lib.hid hob
  clear r3 s3 b3 hml hr1 hiv hob
  go_wp2_with fail
  have RB : row? (w3.alloc (.cells (qs iv) 247)) w3.heap.size = some (qs iv) := row?_alloc_at _ _ _ _ rfl
  have B4 : Below w.heap.size w (w3.alloc (.cells (qs iv) 247)) := B3.out.alloc B3.out.size _
  have R4 : row? (w3.alloc (.cells (qs iv) 247)) w.heap.size = some (bvs (zeros 32)) := by rw [row?_alloc_past _ _ _ (row?_lt R3.out)]; exact R3.out
  have S4 := S3.out.below ((Below.refl _ _).alloc (Nat.le_refl _) (.cells (qs iv) 247))
  have hlt3 := row?_lt R3.out
  generalize (w3.alloc (.cells (qs iv) 247)) = w4 at *
  have HX := Lib.hid (And.intro RB (And.intro B4 (And.intro R4 (And.intro S4 hlt3))))
  clear RB B4 R4 S4 R3 S3 B3 hlt3 ld st hiz
  generalize w3.heap.size = B6 at *
  go_loopw [3] (fun v wr => ∃ (l : List UInt8) (h : List Int), (∀ q, v.ownBlock = some q → q < B6) ∧ l.length % 64 = 0 ∧ l.length ≤ 200000 ∧ h.length = 8 ∧ Sl wr v l ∧ row? wr B6 = some (qs h) ∧ row? wr w.heap.size = some (bvs (zeros 32)) ∧ Below w.heap.size w wr) (fun v _ => sliceLen v)
  case atStart => exact ⟨M, iv, HO.out, HM.out.1, HM.out.2, HI.out, HX.out.2.2.2.1, HX.out.1, HX.out.2.2.1, HX.out.2.1⟩
  case round =>
   have HX := Lib.hid HX.out.2.2.2.2
   obtain ⟨l, h, hob, hl, hl2, hh, hs, h6, h0, hb⟩ := hrel
   obtain ⟨lo, lcap, rfl, hlc, hln, hlp⟩ := id hs
   by_cases hpos : 0 < l.length
   ·have p1 : decide (0 < l.length) = true := decide_eq_true hpos
    have hg6 : 64 ≤ l.length := by omega
    obtain ⟨b, off, rfl, -⟩ := hlp hpos
    have hcl := load_sl Ag64b (show Sl wr.drew _ l from hs) hg6 (by omega)
    have hat : (Instr.arrayAt 249 (.slice (some ⟨b, off, none⟩) l.length lcap)).run Tryz.prog wr.drew = .ok (.pointer (some ⟨b, off, none⟩)) wr.drew := run_arrayAt wr.drew _ _ 64 _ _ _ Tryz.underlying249 hg6
    have hcut : ∀ W, (Instr.sliceAt 22 (.slice (some ⟨b, off, none⟩) l.length lcap) (some (.int .i64 (64 : Int))) none none).run Tryz.prog W = .ok (.slice (cutA (some ⟨b, off, none⟩) 64 lcap) (l.length - 64) (lcap - 64)) W := fun W => cut_l TBg W _ l.length lcap .i64 64 (by omega) (by omega)
    have hld : (loadAgg 249 (.pointer (some ⟨b, off, none⟩))).run Tryz.prog wr.drew = .ok (.agg (bvs (l.take 64))) wr.drew := hcl
    have hhz : (qs h).size = 8 := by rw [qs_size, hh]
    have l6 := rld8w wr.drew B6 (by rw [row?_drew, h6, Option.map_some, hhz])
    rw [row?_drew, h6, Option.getD_some] at l6
    have HH := Lib.hid (And.intro hl (And.intro hl2 (And.intro hh (And.intro hs (And.intro h6 (And.intro h0 (And.intro hb hg6)))))))
    have hbb : b < B6 := hob b rfl
    clear hob hl hl2 hh hs h6 h0 hb hg6 hcl hlp hln hlc hpos
    go_wp2_with fail
    refine Rg.wp_region_plan (Rg.row [(0, 0), (1, 3), (2, 1), (3, 0), (4, 1)] [5]) [5] (by kernel_rfl) (by kernel_rfl) ?_
    simp only [Rg.row, Rg.PT.map, List.map_cons, List.map_nil, List.getD_cons_zero, List.getD_cons_succ]
    go_wp2_with (first
     |(with_reducible refine Rg.plan_pure ?_ ?_ ?_); kernel_rfl; kernel_rfl; intro _ _|(with_reducible refine Rg.plan_take ?_ ?_ ?_); kernel_rfl; kernel_rfl; intro _ _|(with_reducible refine Rg.plan_keep ?_ ?_); kernel_rfl; intro K hK|refine hK _ _ (Rg.Keep.refl _) ?_; clear hK|refine hK _ _ (Rg.Keep.of_below (by assumption)) ?_; clear hK|(with_reducible refine Rg.plan_skip ?_ ?_); kernel_rfl|(with_reducible refine Rg.plan_done ?_)|(with_reducible refine Rg.calm_normal ?_))
    refine hK _ _ (Rg.Keep.refl _) ?_
    clear hK
    go_wp2_with (first
     |(with_reducible refine Rg.plan_pure ?_ ?_ ?_); kernel_rfl; kernel_rfl; intro _ _|(with_reducible refine Rg.plan_take ?_ ?_ ?_); kernel_rfl; kernel_rfl; intro _ _|(with_reducible refine Rg.plan_keep ?_ ?_); kernel_rfl; intro K hK|refine hK _ _ (Rg.Keep.refl _) ?_; clear hK|refine hK _ _ (Rg.Keep.of_below (by assumption)) ?_; clear hK|(with_reducible refine Rg.plan_skip ?_ ?_); kernel_rfl|(with_reducible refine Rg.plan_done ?_)|(with_reducible refine Rg.calm_normal ?_))
    refine (step_any h HH.out.2.2.1 (l.take 64) (by rw [List.length_take]; have := HH.out; omega) _ (HG.out.below HH.out.2.2.2.2.2.2.1.drew)).mono ?_
    rintro e w5 ⟨⟨h', hh', rfl⟩, b5⟩
    have B5' := Lib.hid b5
    refine hK _ _ (Rg.Keep.of_below b5) ?_
    clear hK
    have r6 : row? w5 B6 = some (qs h) := by rw [row?_below b5 (row?_lt HH.out.2.2.2.2.1)]; exact HH.out.2.2.2.2.1
    have st := rst8w w5 B6 (qs h') (by rw [r6, Option.map_some, qs_size, HH.out.2.2.1]) (by rw [qs_size, hh']) (qs_all h')
    have R6 := Lib.hid r6
    have HH' := Lib.hid hh'
    clear b5 r6 hh'
    go_wp2_with (first
     |(with_reducible refine Rg.plan_pure ?_ ?_ ?_); kernel_rfl; kernel_rfl; intro _ _|(with_reducible refine Rg.plan_take ?_ ?_ ?_); kernel_rfl; kernel_rfl; intro _ _|(with_reducible refine Rg.plan_keep ?_ ?_); kernel_rfl; intro K hK|refine hK _ _ (Rg.Keep.refl _) ?_; clear hK|refine hK _ _ (Rg.Keep.of_below (by assumption)) ?_; clear hK|(with_reducible refine Rg.plan_skip ?_ ?_); kernel_rfl|(with_reducible refine Rg.plan_done ?_)|(with_reducible refine Rg.calm_normal ?_))
    have hsl := HH.out.2.2.2.1.cut 64 l.length (by have := HH.out.2.2.2.2.2.2.2; omega) (Nat.le_refl _)
    rw [List.take_length] at hsl
    have hS5 : Sl w5 (.slice (cutA (some ⟨b, off, none⟩) 64 lcap) (l.length - 64) (lcap - 64)) (l.drop 64) := (Sl.below (show Sl wr.drew _ _ from hsl) B5'.out)
    refine ⟨⟨l.drop 64, h', fun q e => ?_, by rw [List.length_drop]; have := HH.out; omega, by rw [List.length_drop]; have := HH.out; omega, HH'.out, hS5.setRow (fun q e => ?_), row?_setRow_eq R6.out, ?_, below_setRow (HH.out.2.2.2.2.2.2.1.drew.trans (B5'.out.mono HH.out.2.2.2.2.2.2.1.size)) (by have := HX.out; omega) _⟩, ?_⟩
    ·rw [cut_block] at e; injection e with e; omega
    ·rw [cut_block] at e; injection e with e; omega
    ·rw [row?_setRow_ne _ _ _ _ (by have := HX.out; omega), row?_below B5'.out (row?_lt (show row? wr.drew _ = _ from HH.out.2.2.2.2.2.1))]
     exact HH.out.2.2.2.2.2.1
    ·have := HH.out.2.2.2.2.2.2.2
     simp only [sliceLen]; omega
   have p1 : decide (0 < l.length) = false := decide_eq_false hpos
   have hhz : (qs h).size = 8 := by rw [qs_size, hh]
   have HH := Lib.hid (And.intro hh (And.intro h6 (And.intro h0 hb)))
   clear hob hl hl2 hs hb hlp hln hlc
   have l6 := rld8w (wr.alloc (.cells (bvs (zeros 32)) 163)) B6 (by rw [row?_alloc_past _ _ _ (row?_lt h6), h6, Option.map_some, hhz])
   rw [row?_alloc_past _ _ _ (row?_lt h6), h6, Option.getD_some] at l6
   have r7 : row? (wr.alloc (.cells (bvs (zeros 32)) 163)) wr.heap.size = some (bvs (zeros 32)) := row?_alloc_at _ _ _ _ rfl
   have r0 : row? (wr.alloc (.cells (bvs (zeros 32)) 163)) w.heap.size = some (bvs (zeros 32)) := by rw [row?_alloc_past _ _ _ (row?_lt h0)]; exact h0
   have b7 : Below w.heap.size w (wr.alloc (.cells (bvs (zeros 32)) 163)) := HH.out.2.2.2.alloc HH.out.2.2.2.size _
   have hz7 := row?_lt h0
   have H7 := Lib.hid (And.intro r7 (And.intro r0 (And.intro b7 hz7)))
   clear hh hhz h0 hpos h6 r7 r0 b7 hz7
   go_wp2_with fail
   generalize (wr.alloc (.cells (bvs (zeros 32)) 163)) = w7 at *
   generalize wr.heap.size = B7 at *
   clear l6
   go_loopw [8, 9, 38] (fun _ _ v wr => ∃ (k : Nat) (l : List UInt8), k ≤ 8 ∧ v = .int .i64 (k : Nat) ∧ l.length = 32 ∧ row? wr B7 = some (bvs l) ∧ row? wr w.heap.size = some (bvs (zeros 32)) ∧ Below w.heap.size w wr) (fun _ _ v _ => 8 - (intOf v).toNat)
   case atStart => exact ⟨0, zeros 32, by omega, rfl, zeros_length _, H7.out.1, H7.out.2.1, H7.out.2.2.1⟩
   case round =>
    have HB7 := H7.out.2.2.2
    clear H7
    obtain ⟨k, l, hk, rfl, hl, h7, h0, hb⟩ := hrel
    by_cases hk8 : k < 8
    ·have p1 : decide ((k : Int) < 8) = true := decide_eq_true (by omega)
     obtain ⟨z, hz⟩ := ix8 h HH.out.1 k hk8 wr
     have HK := Lib.hid (And.intro hl (And.intro h7 (And.intro h0 (And.intro hb hk8))))
     clear hl h7 h0 hb hk hk8
     go_wp2_with fail
     go_loopw [10, 42] (fun _ v wr => ∃ (j : Nat) (l : List UInt8), j ≤ 4 ∧ v = .int .i64 (j : Nat) ∧ l.length = 32 ∧ row? wr B7 = some (bvs l) ∧ row? wr w.heap.size = some (bvs (zeros 32)) ∧ Below w.heap.size w wr) (fun _ v _ => 4 - (intOf v).toNat)
     case atStart => exact ⟨0, l, by omega, rfl, HK.out.1, HK.out.2.1, HK.out.2.2.1, HK.out.2.2.2.1⟩
     case round =>
      obtain ⟨j, l, hj, rfl, hl, h7, h0, hb⟩ := hrel
      by_cases hj4 : j < 4
      ·have p1 : decide ((j : Int) < 4) = true := decide_eq_true (by omega)
       have hk8 := HK.out.2.2.2.2
       obtain ⟨a, ha⟩ : ∃ a : Nat, 4 * k = a := ⟨_, rfl⟩
       obtain ⟨c, hc⟩ : ∃ c : Nat, a + j = c := ⟨_, rfl⟩
       obtain ⟨d, hd⟩ : ∃ d : Nat, 8 * j = d := ⟨_, rfl⟩
       obtain ⟨e, he⟩ : ∃ e : Nat, 24 - d = e := ⟨_, rfl⟩
       obtain ⟨j1, hj1⟩ : ∃ j1 : Nat, j + 1 = j1 := ⟨_, rfl⟩
       have q : 4 * (k : Int) = (a : Nat) ∧ (a : Int) + (j : Nat) = (c : Nat) ∧ 8 * (j : Int) = (d : Nat) ∧ (24 : Int) - (d : Nat) = (e : Nat) ∧ (j : Int) + 1 = (j1 : Nat) := by omega
       have q2 : a < 100 ∧ c < 32 ∧ d < 100 ∧ e < 100 ∧ j1 < 100 := by omega
       have e1 := wrap_nat q.1 (by omega)
       have e2 := wrap_nat q.2.1 (by clear e1; omega)
       have e3 := wrap_nat q.2.2.1 (by clear e1 e2; omega)
       have e4 := wrap_nat q.2.2.2.1 (by clear e1 e2 e3; omega)
       have e5 := wrap_nat q.2.2.2.2 (by clear e1 e2 e3 e4; omega)
       have cc : wr.cell? ⟨B7, c, none⟩ = some (.int .u8 (n8 (nth l c) : Nat)) := by rw [row?_cell h7, bvs_getElem?, if_pos (by rw [hl]; exact q2.2.1)]
       have fc := row?_frozen h7 c
       have HL := Lib.hid (And.intro hl (And.intro h7 (And.intro h0 (And.intro hb (And.intro hj4 hj1)))))
       obtain ⟨-, qc, -⟩ := q2
       clear hl h7 h0 hb hj q ha hc hd he hj1 hj4 hz hk8
       go_wp2_with fail
       obtain ⟨y, hy⟩ := mod8 (z / 2 ^ min e 32)
       rw [hy, e5]
       exact ⟨⟨j1, l.set c y, by have := HL.out; omega, rfl, by simpa using HL.out.1, (row?_setCell_eq HL.out.2.1 _).trans (congrArg some (bvs_setn _ _ _)), (row?_setCell_ne _ _ _ _ (by simp only; omega)).trans HL.out.2.2.1, HL.out.2.2.2.1.setCell (p := ⟨B7, c, none⟩) (by simp only; omega) _⟩, meas_up HL.out.2.2.2.2.1 (by have := HL.out.2.2.2.2.2; omega)⟩
      have p1 : decide ((j : Int) < 4) = false := decide_eq_false (by omega)
      have HL := Lib.hid (And.intro hl (And.intro h7 (And.intro h0 hb)))
      clear hl h7 h0 hb hj
      have hk8 := HK.out.2.2.2.2
      go_wp2_with fail
      exact ⟨⟨k + 1, l, by have := HK.out; omega, by push_cast; rfl, HL.out.1, HL.out.2.1, HL.out.2.2.1, HL.out.2.2.2⟩, meas_up HK.out.2.2.2.2 rfl⟩
    have p1 : decide ((k : Int) < 8) = false := decide_eq_false (by omega)
    have ls : (bvs l).size = 32 := by rw [bvs_size, hl]
    have l7 := rld32b wr B7 (by rw [h7, Option.map_some, ls])
    rw [h7, Option.getD_some] at l7
    have s7 := rst32b wr w.heap.size (bvs l) (by rw [h0, Option.map_some]; rfl) ls (bvs_all l)
    have HK := Lib.hid (And.intro hl (And.intro h7 (And.intro h0 hb)))
    clear hl h7 h0 hb hk hk8
    go_wp2_with fail
    refine bodyPost_ret (results_row Ag32b rfl _ _ w.heap.size (bvs l) rfl ?_ ls) rfl ?_
    ·exact row?_setRow_eq HK.out.2.2.1
    ·exact ⟨⟨l, HK.out.1, rfl⟩, below_setRow HK.out.2.2.2 (Nat.le_refl _) _⟩
end Go.Proofs.YthjbmggpleliaaaGreatDoor

end
section
namespace Go.Proofs.YthjbmggpleliaaaGreatDoor
open Go.RowKit Go.Rw Aes
theorem pts_1 {w : World} {B : Nat} {u : Value} {a : List UInt8} (h : row? w B = some #[u]) (h1 : Sl w u a) : Pts w (.slice (some ⟨B, 0, none⟩) 1 1) [a] := by
 refine ⟨_, 1, rfl, fun _ => ⟨B, 0, rfl, fun k hk => ?_⟩⟩
 rw [row?_cell h]
 match k, hk with
 | 0, _ => exact ⟨_, rfl, h1⟩
theorem sl_row {w : World} {g n : Nat} {l : List UInt8} (h : row? w g = some (bvs l)) (hl : l.length = n) : Sl w (.slice (some ⟨g, 0, none⟩) n n) l := by
 subst hl; exact Sl.row h
attribute [local go_sem ↓] ld64w st64w al64w ld8w st8w al8w ld64b st64b al64b ld32b st32b al32b bvs_getElem? qs_getElem?
attribute [local go_sem] rld64w rst64w ral64w rld8w rst8w ral8w rld64b rst64b ral64b rld32b rst32b ral32b setRow_alloc_at setRow_alloc_past setRow_drew
set_option maxRecDepth 100000 in
set_option maxHeartbeats 2000000 in
theorem masked_any (key : List UInt8) (hk : key.length ≤ 10000) (m : UInt8) (v : Value) (w : World) (hs : Sl w v key) (hg : Glob w) :
  Calls Tryz.prog 140 #[v, .int .u8 (n8 m : Nat)] w fun e w' => (∃ v l, l.length = 64 ∧ e = .returned v ∧ Sl w' v l) ∧ Below w.heap.size w w' := by
 obtain ⟨ao, cap, rfl, -⟩ := id hs
 have HS := Lib.hid hs
 have HG := Lib.hid hg
 have HK := Lib.hid hk
 clear hs hg hk
 go_enter Tryz.func140, Tryz.ntmps140
 go_upto_if 10 with (fail)
 go_cut [0] (fun t wx => ∃ l, Sl wx t l ∧ row? wx w.heap.size = some (bvs (zeros 64)) ∧ Below w.heap.size w wx)
 case first =>
  by_cases h64 : 64 < key.length
  ·have p1 : decide ((64 : Int) < (key.length : Nat)) = true := decide_eq_true (by omega)
   have p2 : (64 : Int) < (key.length : Nat) := by omega
   clear h64
   go_wp2_with fail
   refine (sum_any [key] (by simp) (by have := HK.out; simp; omega) _ _ (pts_1 (B := w.heap.size + 1) (row?_alloc_at _ _ _ _ (by simp)) (HS.out.below (bm2 w _ _))) (HG.out.below (bm2 w _ _))).mono ?_
   rintro e w1 ⟨⟨h, hh, rfl⟩, b1⟩
   have hz := b1.size
   simp at hz
   have B1 := Lib.hid ((bm2 w _ _).trans (b1.mono (by simp; omega)))
   have R1 := Lib.hid (show row? w1 w.heap.size = some (bvs (zeros 64)) by rw [row?_below b1 (by simp; omega), row?_alloc_past _ _ _ (by simp; done)]; exact row?_alloc_at _ _ _ _ rfl)
   have hhz : (bvs h).size = 32 := by rw [bvs_size, hh]
   have HH := Lib.hid hh
   clear b1 hh
   go_wp2_with fail
   go_meet
   exact ⟨h, sl_row (row?_alloc_at _ _ _ _ rfl) HH.out, (row?_alloc_past _ _ _ (row?_lt R1.out)).trans R1.out, B1.out.alloc B1.out.size _⟩
  have p1 : decide ((64 : Int) < (key.length : Nat)) = false := decide_eq_false (by omega)
  have p2 : ¬ (64 : Int) < (key.length : Nat) := by omega
  clear h64
  go_wp2_with fail
  go_meet
  exact ⟨key, HS.out.below ((Below.refl _ _).alloc (Nat.le_refl _) _), row?_alloc_at _ _ _ _ rfl, (Below.refl _ _).alloc (Nat.le_refl _) _⟩
 obtain ⟨l, hl, hr, hb⟩ := hcut
 obtain ⟨lo, lcap, rfl, -⟩ := id hl
 have hcopy := run_copy_sl (P := Tryz.prog) (dT := 22) (sT := 22) (ty := 3) (elem := 5) Tryz.underlying22 (by kernel_rfl) 64 64 hr (zeros_length _) hl
 have hlen : (l.take 64 ++ (zeros 64).drop l.length).length = 64 := by
  rw [List.length_append, List.length_take, List.length_drop, zeros_length]; omega
 generalize l.take 64 ++ (zeros 64).drop l.length = q at *
 have HR := Lib.hid (And.intro hr (And.intro hb hlen))
 clear hl hr hb hlen
 go_wp2_with fail
 go_loopw [7, 18] (fun _ v wr => ∃ (k : Nat) (l : List UInt8), k ≤ 64 ∧ v = .int .i64 (k : Nat) ∧ l.length = 64 ∧ row? wr w.heap.size = some (bvs l) ∧ Below w.heap.size w wr) (fun _ v _ => 64 - (intOf v).toNat)
 case atStart => exact ⟨0, q, by omega, rfl, HR.out.2.2, row?_setRow_eq HR.out.1, below_setRow HR.out.2.1 (Nat.le_refl _) _⟩
 case round =>
  obtain ⟨k, l, hk, rfl, hl, hr, hb⟩ := hrel
  by_cases hk64 : k < 64
  ·have p1 : decide ((k : Int) < 64) = true := decide_eq_true (by omega)
   have c1 : wr.cell? ⟨w.heap.size, k, none⟩ = some (.int .u8 (n8 (nth l k) : Nat)) := by rw [row?_cell hr, bvs_getElem?, if_pos (by omega)]
   have f1 := row?_frozen hr k
   have HL := Lib.hid (And.intro hl (And.intro hr hb))
   clear hl hr hb hk hcopy
   go_wp2_with fail
   exact ⟨⟨k + 1, l.set k _, by omega, by push_cast; rfl, by simpa using HL.out.1, (row?_setCell_eq HL.out.2.1 _).trans (congrArg some (bvs_setn _ _ _)), HL.out.2.2.setCell (p := ⟨w.heap.size, k, none⟩) (by simp) _⟩, meas_up hk64 rfl⟩
  have p1 : decide ((k : Int) < 64) = false := decide_eq_false (by omega)
  have HL := Lib.hid (And.intro hl (And.intro hr hb))
  clear hl hr hb hk
  go_wp2_with fail
  go_ret
  exact ⟨⟨_, l, HL.out.1, rfl, sl_row HL.out.2.1 HL.out.1⟩, HL.out.2.2⟩
end Go.Proofs.YthjbmggpleliaaaGreatDoor

end
section
namespace Go.Rw
open Go Go.RowKit
theorem Pts.below {w w' : World} {v : Value} {ps : List (List UInt8)} (h : Pts w v ps) (hb : Below w.heap.size w w') : Pts w' v ps := by
 obtain ⟨ao, cap, rfl, hp⟩ := h
 refine ⟨ao, cap, rfl, fun h0 => ?_⟩
 obtain ⟨b, off, rfl, hc⟩ := hp h0
 refine ⟨b, off, rfl, fun k hk => ?_⟩
 obtain ⟨u, hu, hs⟩ := hc k hk
 exact ⟨u, below_cell hb hu (cell_lt hu), hs.below hb⟩
theorem pts_2 {w : World} {B : Nat} {u1 u2 : Value} {a b : List UInt8} (h : row? w B = some #[u1, u2]) (h1 : Sl w u1 a) (h2 : Sl w u2 b) : Pts w (.slice (some ⟨B, 0, none⟩) 2 2) [a, b] := by
 refine ⟨_, 2, rfl, fun _ => ⟨B, 0, rfl, fun k hk => ?_⟩⟩
 rw [row?_cell h]
 match k, hk with
 | 0, _ => exact ⟨_, rfl, h1⟩
 | 1, _ => exact ⟨_, rfl, h2⟩
theorem oneCell_sl {w : World} {u : Value} {l : List UInt8} (h : Sl w u l) : u.oneCell' = true := by
 obtain ⟨ao, cap, rfl, -⟩ := h; rfl
def ptVals (w : World) (b off n : Nat) : List Value := (List.range n).map fun k => (w.cell? ⟨b, off + k, none⟩).getD undef
theorem own_new1 (w : World) (t : TypeId) (u : Value) : (w.alloc (.cells #[u] t)).ownsRow w.heap.size t 1 (.slice (some ⟨w.heap.size, 0, none⟩) 1 1) 1 [u] :=
 ⟨rfl, .inr ⟨w.heap.size, 1, #[u], rfl, Nat.le_refl _, heap_alloc_new w _, Nat.le_refl _, by unfold maxLen; omega, rfl, rfl⟩⟩
theorem pts_app {w1 w' : World} {v' u1 : Value} {l1 : List UInt8} {ps : List (List UInt8)} {b off N : Nat} {e : TypeId} (hb : Below w1.heap.size w1 w') (s1 : Sl w1 u1 l1)
  (hP : ∀ k, k < ps.length → ∃ u, w1.cell? ⟨b, off + k, none⟩ = some u ∧ Sl w1 u (ps.getD k [])) (own : w'.ownsRow N e 1 v' (1 + ps.length) ([u1] ++ ptVals w1 b off ps.length)) : Pts w' v' (l1 :: ps) := by
 rcases own.2 with ⟨rfl, h0⟩ | ⟨g, cap, cur, rfl, hN, hg, hnc, hcm, hcs, htake⟩
 ·omega
 ·refine ⟨_, cap, by rw [List.length_cons, Nat.add_comm], fun _ => ⟨g, 0, rfl, fun k hk => ?_⟩⟩
  rw [List.length_cons] at hk
  rw [World.ownsRow.cellAt own (0 + k) (by omega)]
  match k with
  | 0 => exact ⟨u1, rfl, s1.below hb⟩
  | k + 1 =>
   obtain ⟨u, hu, hs⟩ := hP k (by omega)
   refine ⟨u, ?_, hs.below hb⟩
   simp only [Nat.zero_add, List.singleton_append, List.getElem?_cons_succ]
   simp [ptVals, hu, show k < ps.length by omega]
end Go.Rw
namespace Go.Proofs.YthjbmggpleliaaaGreatDoor
open Go.RowKit Go.Rw Aes
theorem info22 : (Tryz.prog.info? 22).map (fun i => (i.zero, i.size, i.bytes)) = some (some (.slice none 0 0), 1, 24) := by kernel_rfl
attribute [local go_sem ↓] ld64w st64w al64w ld8w st8w al8w ld64b st64b al64b ld32b st32b al32b bvs_getElem? qs_getElem?
attribute [local go_sem] rld64w rst64w ral64w rld8w rst8w ral8w rld64b rst64b ral64b rld32b rst32b ral32b setRow_alloc_at setRow_alloc_past setRow_drew
set_option maxRecDepth 100000 in
set_option maxHeartbeats 2000000 in
theorem mac_any (key : List UInt8) (hk : key.length ≤ 10000) (ps : List (List UInt8)) (hps : ps.length ≤ 1000) (hp0 : 0 < ps.length) (hpl : ps.flatten.length ≤ 50000) (v u : Value) (w : World) (hs : Sl w v key) (hP : Pts w u ps) (hg : Glob w) :
  Calls Tryz.prog 104 #[v, u] w fun e w' => (∃ l, l.length = 32 ∧ e = .returned (.agg (bvs l))) ∧ Below w.heap.size w w' := by
 obtain ⟨ao, cap, rfl, -⟩ := id hs
 obtain ⟨po, pcap, rfl, hp⟩ := id hP
 obtain ⟨pb, poff, rfl, -⟩ := hp hp0
 obtain ⟨i0, hi, hz0, hz1, hz2⟩ := info_parts info22
 clear hp hp0
 have HS := Lib.hid hs
 have HG := Lib.hid hg
 have HP := Lib.hid hP
 have HK := Lib.hid (And.intro hk (And.intro hps hpl))
 clear hs hg hk hP hps hpl
 go_enter Tryz.func104, Tryz.ntmps104
 go_wp2_with fail
 refine (masked_any key HK.out.1 54 _ _ (HS.out.below ((Below.refl _ _).alloc (Nat.le_refl _) _)) (HG.out.below ((Below.refl _ _).alloc (Nat.le_refl _) _))).mono ?_
 rintro e w1 ⟨⟨v1, l1, hl1, rfl, s1⟩, b1⟩
 have hz := b1.size
 simp at hz
 have r1 : row? w1 w.heap.size = some (bvs (zeros 32)) := by rw [row?_below b1 (by simp)]; exact row?_alloc_at _ _ _ _ rfl
 have B1 := Lib.hid (((Below.refl _ w).alloc (Nat.le_refl _) (.cells (bvs (zeros 32)) 163)).trans (b1.mono (by simp)))
 have S1 := Lib.hid s1
 have R1 := Lib.hid r1
 have HL1 := Lib.hid hl1
 clear b1 s1 r1 hl1
 obtain ⟨ao1, cap1, rfl, -⟩ := id S1.out
 go_wp2_with (at_builtin; refine Classical.byContradiction ?_)
 intro hh; apply hh; clear hh
 have hP1 := HP.out.below (B1.out)
 obtain ⟨_, _, e, hp⟩ := id hP1
 injection e with e1 e2 e3
 subst e1
 clear e3
 have hp' : ∀ k, k < ps.length → ∃ u, w1.cell? ⟨pb, poff + k, none⟩ = some u ∧ Sl w1 u (ps.getD k []) := fun k hk => by
  obtain ⟨b', off', e', hc⟩ := hp (by omega)
  injection e' with e'
  injection e' with e1 e2
  subst e1; subst e2
  exact hc k hk
 clear hp
 have hal : Below w1.heap.size w1 (w1.alloc (.cells #[.slice ao1 l1.length cap1] 22)) := (Below.refl _ _).alloc (Nat.le_refl _) _
 refine wpList_append_own _ rfl _ _ 208 rfl w1.heap.size 22 i0 (.slice none 0 0) 1 24 Tryz.underlying208 hi hz0 hz1 hz2 rfl (by decide) (.slice (some ⟨w1.heap.size, 0, none⟩) 1 1) 1 [.slice ao1 l1.length cap1] rfl (own_new1 w1 _ _) ⟨pb, poff, none⟩ ps.length pcap (ptVals w1 pb poff ps.length) rfl (by simp [ptVals]) ?_ ?_ (by have := HK.out; unfold maxLen; omega) (by have := HK.out; omega) (by simp) ?_
 ·intro j u hj
  have hj' : j < ps.length := by
   have := (List.getElem?_eq_some_iff.1 hj).1
   simpa [ptVals] using this
  obtain ⟨u', hu', -⟩ := hp' j hj'
  have : u' = u := by simpa [ptVals, hj', hu'] using hj
  subst this
  rw [Addr.add_lit]
  exact below_cell hal hu' (cell_lt hu')
 ·intro u hu
  obtain ⟨k, hk, rfl⟩ := List.mem_map.1 hu
  obtain ⟨u', hu', hs⟩ := hp' k (List.mem_range.1 hk)
  rw [hu']
  exact oneCell_sl hs
 intro v3 w3 o3 g3 _
 have b3 : Below w1.heap.size w1 w3 := below_grown hal g3 (fun q e => by simp only [Value.ownBlock, Option.some.injEq] at e; omega) (by simp)
 have P3 := Lib.hid (pts_app b3 S1.out hp' o3)
 have B3 := Lib.hid (B1.out.trans (b3.mono (by omega)))
 have R3 := Lib.hid (show row? w3 w.heap.size = some (bvs (zeros 32)) by rw [row?_below b3 (by omega)]; exact R1.out)
 obtain ⟨vo, vcap, rfl, -⟩ := id P3.out
 clear o3 g3 b3 hal hp' hP1
 go_wp2_with fail
 refine (sum_any (l1 :: ps) (by have := HK.out; simp only [List.length_cons]; omega) (by have := HK.out; have := HL1.out; simp only [List.flatten_cons, List.length_append]; omega) _ _ P3.out (HG.out.below B3.out)).mono ?_
 rintro e w4 ⟨⟨h, hh, rfl⟩, b4⟩
 have hz4 := b4.size
 have R4 := Lib.hid (show row? w4 w.heap.size = some (bvs (zeros 32)) by rw [row?_below b4 (row?_lt R3.out)]; exact R3.out)
 have B4 := Lib.hid (B3.out.trans (b4.mono B3.out.size))
 have hhz : (bvs h).size = 32 := by rw [bvs_size, hh]
 have HH := Lib.hid hh
 clear b4 hh
 go_wp2_with fail
 have R5 := Lib.hid (show row? (w4.alloc (.cells (bvs h) 163)) w4.heap.size = some (bvs h) from row?_alloc_at _ _ _ _ rfl)
 have R6 := Lib.hid (show row? (w4.alloc (.cells (bvs h) 163)) w.heap.size = some (bvs (zeros 32)) by rw [row?_alloc_past _ _ _ (row?_lt R4.out)]; exact R4.out)
 have B5 := Lib.hid (B4.out.alloc (o := .cells (bvs h) 163) B4.out.size)
 have hz5 : w4.heap.size < (w4.alloc (.cells (bvs h) 163)).heap.size := row?_lt R5.out
 generalize (w4.alloc (.cells (bvs h) 163)) = w5 at *
 generalize w4.heap.size = g5 at *
 clear R4 B4 R3 B3 P3 S1 R1 HP
 refine Rg.wp_region_plan (Rg.row [(0, 3), (2, 3), (1, 1), (3, 1), (4, 1)] [5]) [5] (by kernel_rfl) (by kernel_rfl) ?_
 simp only [Rg.row, Rg.PT.map, List.map_cons, List.map_nil, List.getD_cons_zero, List.getD_cons_succ]
 go_wp2_with (first
  |(with_reducible refine Rg.plan_pure ?_ ?_ ?_); kernel_rfl; kernel_rfl; intro _ _|(with_reducible refine Rg.plan_take ?_ ?_ ?_); kernel_rfl; kernel_rfl; intro _ _|(with_reducible refine Rg.plan_keep ?_ ?_); kernel_rfl; intro K hK|refine hK _ _ (Rg.Keep.refl _) ?_; clear hK|refine hK _ _ (Rg.Keep.of_below (by assumption)) ?_; clear hK|(with_reducible refine Rg.plan_skip ?_ ?_); kernel_rfl|(with_reducible refine Rg.plan_done ?_)|(with_reducible refine Rg.calm_normal ?_))
 refine (masked_any key HK.out.1 92 _ _ (HS.out.below B5.out.drew) (HG.out.below B5.out.drew)).mono ?_
 rintro e w6 ⟨⟨v6, l6, hl6, rfl, s6⟩, b6⟩
 obtain ⟨ao6, cap6, rfl, -⟩ := id s6
 refine hK _ _ (Rg.Keep.of_below b6) ?_
 clear hK
 have R7 := Lib.hid (show row? w6 g5 = some (bvs h) by rw [row?_below b6 (row?_lt (show row? w5.drew _ = _ from R5.out))]; exact R5.out)
 have R8 := Lib.hid (show row? w6 w.heap.size = some (bvs (zeros 32)) by rw [row?_below b6 (row?_lt (show row? w5.drew _ = _ from R6.out))]; exact R6.out)
 have B8 := Lib.hid (B5.out.drew.trans (b6.mono B5.out.size))
 have S8 := Lib.hid s6
 have HL6 := Lib.hid hl6
 clear b6 s6 hl6 R5 R6 B5
 go_wp2_with (first
  |(with_reducible refine Rg.plan_pure ?_ ?_ ?_); kernel_rfl; kernel_rfl; intro _ _|(with_reducible refine Rg.plan_take ?_ ?_ ?_); kernel_rfl; kernel_rfl; intro _ _|(with_reducible refine Rg.plan_keep ?_ ?_); kernel_rfl; intro K hK|refine hK _ _ (Rg.Keep.refl _) ?_; clear hK|refine hK _ _ (Rg.Keep.of_below (by assumption)) ?_; clear hK|(with_reducible refine Rg.plan_skip ?_ ?_); kernel_rfl|(with_reducible refine Rg.plan_done ?_)|(with_reducible refine Rg.calm_normal ?_))
 have al := (Below.refl w6.heap.size w6).alloc (Nat.le_refl _) (.cells #[.slice ao6 l6.length cap6, .slice (some ⟨g5, 0, none⟩) 32 32] 22)
 refine hK _ _ (Rg.Keep.of_below al) ?_
 clear hK
 have P9 := Lib.hid (pts_2 (row?_alloc_at w6 _ _ _ rfl) (S8.out.below al) ((sl_row R7.out HH.out).below al) : Pts (w6.alloc (.cells #[.slice ao6 l6.length cap6, .slice (some ⟨g5, 0, none⟩) 32 32] 22)) _ [l6, h])
 have B9 := Lib.hid (B8.out.trans (al.mono B8.out.size))
 have R9 := Lib.hid (show row? (w6.alloc (.cells #[.slice ao6 l6.length cap6, .slice (some ⟨g5, 0, none⟩) 32 32] 22)) w.heap.size = some (bvs (zeros 32)) by rw [row?_below al (row?_lt R8.out)]; exact R8.out)
 clear al
 go_wp2_with (first
  |(with_reducible refine Rg.plan_pure ?_ ?_ ?_); kernel_rfl; kernel_rfl; intro _ _|(with_reducible refine Rg.plan_take ?_ ?_ ?_); kernel_rfl; kernel_rfl; intro _ _|(with_reducible refine Rg.plan_keep ?_ ?_); kernel_rfl; intro K hK|refine hK _ _ (Rg.Keep.refl _) ?_; clear hK|refine hK _ _ (Rg.Keep.of_below (by assumption)) ?_; clear hK|(with_reducible refine Rg.plan_skip ?_ ?_); kernel_rfl|(with_reducible refine Rg.plan_done ?_)|(with_reducible refine Rg.calm_normal ?_))
 refine (sum_any [l6, h] (by simp) (by have := HL6.out; have := HH.out; simp; omega) _ _ P9.out (HG.out.below B9.out)).mono ?_
 rintro e wA ⟨⟨h2, hh2, rfl⟩, bA⟩
 have RA := Lib.hid (show row? wA w.heap.size = some (bvs (zeros 32)) by rw [row?_below bA (row?_lt R9.out)]; exact R9.out)
 have BA := Lib.hid (B9.out.trans (bA.mono B9.out.size))
 refine hK _ _ (Rg.Keep.of_below bA) ?_
 clear hK
 have hhz2 : (bvs h2).size = 32 := by rw [bvs_size, hh2]
 have st := rst32b wA w.heap.size (bvs h2) (by rw [RA.out, Option.map_some]; rfl) hhz2 (bvs_all h2)
 have H2 := Lib.hid hh2
 clear bA hh2
 go_wp2_with (first
  |(with_reducible refine Rg.plan_pure ?_ ?_ ?_); kernel_rfl; kernel_rfl; intro _ _|(with_reducible refine Rg.plan_take ?_ ?_ ?_); kernel_rfl; kernel_rfl; intro _ _|(with_reducible refine Rg.plan_keep ?_ ?_); kernel_rfl; intro K hK|refine hK _ _ (Rg.Keep.refl _) ?_; clear hK|refine hK _ _ (Rg.Keep.of_below (by assumption)) ?_; clear hK|(with_reducible refine Rg.plan_skip ?_ ?_); kernel_rfl|(with_reducible refine Rg.plan_done ?_)|(with_reducible refine Rg.calm_normal ?_))
 refine bodyPost_ret (results_row Ag32b rfl _ _ w.heap.size (bvs h2) rfl ?_ hhz2) rfl ?_
 ·exact row?_setRow_eq RA.out
 ·exact ⟨⟨h2, H2.out, rfl⟩, below_setRow BA.out (Nat.le_refl _) _⟩
end Go.Proofs.YthjbmggpleliaaaGreatDoor

end
section
namespace Go.Rw
open Go Go.RowKit
theorem pts_3 {w : World} {B : Nat} {u1 u2 u3 : Value} {a b c : List UInt8} (h : row? w B = some #[u1, u2, u3]) (h1 : Sl w u1 a) (h2 : Sl w u2 b) (h3 : Sl w u3 c) : Pts w (.slice (some ⟨B, 0, none⟩) 3 3) [a, b, c] := by
 refine ⟨_, 3, rfl, fun _ => ⟨B, 0, rfl, fun k hk => ?_⟩⟩
 rw [row?_cell h]
 match k, hk with
 | 0, _ => exact ⟨_, rfl, h1⟩
 | 1, _ => exact ⟨_, rfl, h2⟩
 | 2, _ => exact ⟨_, rfl, h3⟩
theorem cut_hm {P : Program} {t e : TypeId} (T : SlT P t e) (w : World) (ao : Option Addr) (len cap n : Nat) (hn : n ≤ cap) :
  (Instr.sliceAt t (.slice ao len cap) none (some (.int .i64 (n : Nat))) (some (.int .i64 (n : Nat)))).run P w = .ok (.slice ao n n) w := by
 rw [run_sliceAt_slice w t _ _ _ _ T.und, run_slice_hm w t ao len cap T.und .i64 .i64 n n (by omega) (by omega) (by omega), T.run, Result.andThen_ok]
 have e : (if n = 0 then ao else Option.map (fun a => a.add (0 * 1)) ao) = ao := by
  split
  ·rfl
  ·cases ao <;> simp [Addr.add]
 simp only [sliced, Int.toNat_natCast, Nat.sub_zero, e]
theorem Sl.cut_hm {w : World} {ao : Option Addr} {len cap n : Nat} {l : List UInt8} (h : Sl w (.slice ao len cap) l) (hn : n ≤ l.length) : Sl w (.slice ao n n) (l.take n) := by
 obtain ⟨ao', cap', e, hc, hnn, hp⟩ := h
 cases e
 have hl : (l.take n).length = n := by simp; omega
 refine ⟨ao, n, by rw [hl], by omega, fun h => by have := hnn h; omega, fun h0 => ?_⟩
 obtain ⟨b, off, rfl, hcell⟩ := hp (by omega)
 refine ⟨b, off, rfl, fun k hk => ?_⟩
 rw [hcell k (by omega)]
 simp [nth, show k < n by omega]
end Go.Rw
namespace Go.Proofs.YthjbmggpleliaaaGreatDoor
open Go.RowKit Go.Rw Aes
attribute [local go_sem ↓] ld64w st64w al64w ld8w st8w al8w ld64b st64b al64b ld32b st32b al32b bvs_getElem? qs_getElem?
attribute [local go_sem] rld64w rst64w ral64w rld8w rst8w ral8w rld64b rst64b ral64b rld32b rst32b ral32b setRow_alloc_at setRow_alloc_past setRow_drew
set_option maxRecDepth 100000 in
set_option maxHeartbeats 2000000 in
theorem extract_any (key sec : List UInt8) (hk : key.length ≤ 10000) (hsec : sec.length ≤ 10000) (v u : Value) (w : World) (hs : Sl w v key) (hu : Sl w u sec) (hg : Glob w) :
  Calls Tryz.prog 82 #[v, u] w fun e w' => (∃ l, l.length = 32 ∧ e = .returned (.agg (bvs l))) ∧ Below w.heap.size w w' := by
 obtain ⟨ao, cap, rfl, -⟩ := id hs
 obtain ⟨bo, bcap, rfl, -⟩ := id hu
 have HS := Lib.hid hs
 have HU := Lib.hid hu
 have HG := Lib.hid hg
 have HK := Lib.hid (And.intro hk hsec)
 clear hs hg hk hu hsec
 go_enter Tryz.func82, Tryz.ntmps82
 go_wp2_with fail
 refine (mac_any key HK.out.1 [sec] (by simp) (by simp) (by have := HK.out; simp; omega) _ _ _ (HS.out.below (bm2 w _ _)) (pts_1 (B := w.heap.size + 1) (row?_alloc_at _ _ _ _ (by simp)) (HU.out.below (bm2 w _ _))) (HG.out.below (bm2 w _ _))).mono ?_
 rintro e w1 ⟨⟨h, hh, rfl⟩, b1⟩
 have R1 := Lib.hid (show row? w1 w.heap.size = some (bvs (zeros 32)) by rw [row?_below b1 (by simp; omega), row?_alloc_past _ _ _ (by simp)]; exact row?_alloc_at _ _ _ _ rfl)
 have B1 := Lib.hid ((bm2 w _ _).trans (b1.mono (by simp; omega)))
 have hhz : (bvs h).size = 32 := by rw [bvs_size, hh]
 have st := rst32b w1 w.heap.size (bvs h) (by rw [R1.out, Option.map_some]; rfl) hhz (bvs_all h)
 have HH := Lib.hid hh
 clear b1 hh
 go_wp2_with fail
 refine bodyPost_ret (results_row Ag32b rfl _ _ w.heap.size (bvs h) rfl ?_ hhz) rfl ?_
 ·exact row?_setRow_eq R1.out
 ·exact ⟨⟨h, HH.out, rfl⟩, below_setRow B1.out (Nat.le_refl _) _⟩
set_option maxRecDepth 100000 in
set_option maxHeartbeats 2000000 in
theorem expand_any (key info : List UInt8) (hk : key.length ≤ 10000) (hin : info.length ≤ 10000) (n : Nat) (hn : n ≤ 500) (v u : Value) (w : World) (hs : Sl w v key) (hu : Sl w u info) (hg : Glob w) :
  Calls Tryz.prog 141 #[v, u, .int .i64 (n : Nat)] w fun e w' => (∃ v l, l.length = n ∧ e = .returned v ∧ Sl w' v l) ∧ Below w.heap.size w w' := by
 obtain ⟨i0, hi, hz0, hz1, hz2⟩ := info_parts info8
 obtain ⟨ao, cap, rfl, -⟩ := id hs
 obtain ⟨bo, bcap, rfl, -⟩ := id hu
 have HS := Lib.hid hs
 have HU := Lib.hid hu
 have HG := Lib.hid hg
 have HK := Lib.hid (And.intro hk (And.intro hin hn))
 have p1 : decide ((n : Int) < 0) = false := decide_eq_false (by omega)
 have p2 : decide ((8160 : Int) < (n : Nat)) = false := decide_eq_false (by omega)
 have p3 : ¬ (n : Int) < 0 := by omega
 have p4 : ¬ (8160 : Int) < (n : Nat) := by omega
 clear hs hg hk hu hin hn
 go_enter Tryz.func141, Tryz.ntmps141
 go_wp2_with fail
 clear p1 p2 p3 p4
 go_loopw [7, 8, 9] (fun o la b wr => ∃ (l lb : List UInt8) (c : UInt8), b = .int .u8 (n8 c : Nat) ∧ l.length ≤ n + 31 ∧ lb.length ≤ 32 ∧ OwnB wr w.heap.size o l ∧ Sl wr la lb ∧ Below w.heap.size w wr) (fun o _ _ _ => n + 32 - sliceLen o)
 case atStart => exact ⟨[], [], 1, rfl, by simp, by simp, ⟨rfl, .inl ⟨rfl, rfl⟩⟩, Sl.nil w, Below.refl _ _⟩
 case round =>
  obtain ⟨l, lb, c, rfl, hl, hlb, ho, hs, hb⟩ := hrel
  obtain ⟨oo, ocap, rfl, hoc, -⟩ := id ho.sl
  obtain ⟨lo, lcap, rfl, -⟩ := id hs
  by_cases hln : l.length < n
  ·have p1 : decide (l.length < n) = true := decide_eq_true hln
   have HO := Lib.hid ho
   have HL := Lib.hid (And.intro hln (And.intro hlb (And.intro hs hb)))
   clear ho hs hb hl hlb hoc
   go_wp2_with fail
   have al := bm2 wr (.cells #[.int .u8 (n8 c : Nat)] 5) (.cells #[.slice lo lb.length lcap, .slice bo info.length bcap, .slice (some ⟨wr.heap.size, 0, none⟩) 1 1] 22)
   have s1 : Sl (wr.alloc (.cells #[.int .u8 (n8 c : Nat)] 5)) (.slice (some ⟨wr.heap.size, 0, none⟩) 1 1) [c] := Own.sl (own_one wr 0 c (Nat.zero_le _))
   have hbz := HL.out.2.2.2.trans (al.mono HL.out.2.2.2.size)
   refine (mac_any key HK.out.1 [lb, info, [c]] (by simp) (by simp) (by have := HK.out; have := HL.out; simp; omega) _ _ _ (HS.out.below hbz) (pts_3 (B := wr.heap.size + 1) (row?_alloc_at _ _ _ _ (by simp)) (HL.out.2.2.1.below al) ((HU.out.below HL.out.2.2.2).below al) (s1.below ((Below.refl _ _).alloc (Nat.le_refl _) _))) (HG.out.below hbz)).mono ?_
   rintro e w1 ⟨⟨h, hh, rfl⟩, b1⟩
   have hbz1 := hbz.trans (b1.mono hbz.size)
   have hO1 := own_below (own_below HO.out al) b1
   have B1 := Lib.hid hbz1
   have O1 := Lib.hid (own_below hO1 ((Below.refl _ _).alloc (Nat.le_refl _) (.cells (bvs h) 163)))
   have hhz : (bvs h).size = 32 := by rw [bvs_size, hh]
   have HH := Lib.hid hh
   have HW1 := Lib.hid (show wr.heap.size ≤ w1.heap.size by have := b1.size; have := al.size; omega)
   clear b1 hh s1 al hbz hbz1 hO1
   go_wp2_with (at_builtin; refine Classical.byContradiction ?_)
   intro hh; apply hh; clear hh
   refine app_sl rfl _ _ 22 rfl w.heap.size 5 i0 Tryz.underlying22 hi hz0 hz1 hz2 (.slice oo l.length ocap) l rfl O1.out (.slice (some ⟨w1.heap.size, 0, none⟩) 32 32) h rfl (sl_row (row?_alloc_at _ _ _ _ rfl) HH.out) (by have := HL.out; have := HK.out; have := HH.out; omega) (by have := B1.out.size; simp; omega) ?_
   intro v3 w3 o3 g3
   have r3 : row? w3 w1.heap.size = some (bvs h) := row_grown g3 (row?_alloc_at _ _ _ _ rfl) (fun e => by
    have h1 := (O1.out.lt _ e.symm).1
    have h2 := (HO.out.lt _ e.symm).2
    have h3 := HW1.out
    omega)
   obtain ⟨ao3, cap3, rfl, -⟩ := id (Own.sl o3)
   have O3 := Lib.hid (own_len o3 (n := l.length + h.length) (by rw [List.length_append]))
   have B3 := Lib.hid (below_grown (B1.out.alloc B1.out.size _) g3 (fun q e => (O1.out.lt q e).1) (by have := B1.out.size; simp; omega))
   have R3 := Lib.hid r3
   clear g3 o3 r3
   go_wp2_with fail
   obtain ⟨c', hc'⟩ := mod8 ((n8 c : Nat) + 1)
   have hhl := HH.out
   have hln := HL.out.1
   exact ⟨⟨l ++ h, h, c', by rw [hc'], by rw [List.length_append]; omega, by omega, O3.out, sl_row R3.out HH.out, B3.out⟩, by simp only [sliceLen]; omega⟩
  have p1 : decide (l.length < n) = false := decide_eq_false hln
  have hcut : (Instr.sliceAt 22 (.slice oo l.length ocap) none (some (.int .i64 (n : Nat))) (some (.int .i64 (n : Nat)))).run Tryz.prog wr = .ok (.slice oo n n) wr := cut_hm TBg wr oo l.length ocap n (by omega)
  have HO := Lib.hid ho
  have HL := Lib.hid (And.intro hln hb)
  clear ho hs hb hl hlb hoc hln
  go_wp2_with fail
  go_ret
  exact ⟨⟨_, l.take n, by simp; have := HL.out; omega, rfl, HO.out.sl.cut_hm (by have := HL.out; omega)⟩, HL.out.2⟩
end Go.Proofs.YthjbmggpleliaaaGreatDoor

end
section
namespace Go.Proofs.YthjbmggpleliaaaGreatDoor
open Go Go.RowKit Go.Rw Aes
theorem own_str {w : World} {N : Nat} {v : Value} {l : List UInt8} {s : ByteArray} (h : w.ownsRow N 5 1 v (l.length + s.size) (l.map bv ++ Lib.strCells s)) : OwnB w N v (l ++ s.data.toList) := by
 have e : (l ++ s.data.toList).length = l.length + s.size := by rw [List.length_append, Array.length_toList]; rfl
 unfold OwnB
 rw [e, List.map_append]
 exact h
theorem own_three (w : World) (a b c : UInt8) : OwnB (w.alloc (.cells #[.int .u8 (n8 a : Nat), .int .u8 (n8 b : Nat), .int .u8 (n8 c : Nat)] 5)) w.heap.size (.slice (some ⟨w.heap.size, 0, none⟩) 3 3) [a, b, c] :=
 own_of_RT (l := [a, b, c]) (RT.new w _ _ _ rfl) rfl (Nat.le_refl _) (by omega)
set_option maxRecDepth 100000 in
set_option maxHeartbeats 2000000 in
theorem label_any (key ctx : List UInt8) (s : ByteArray) (hk : key.length ≤ 10000) (hc : ctx.length ≤ 250) (hl : s.size ≤ 100) (n : Nat) (hn : n ≤ 500) (v u : Value) (w : World) (hs : Sl w v key) (hu : Sl w u ctx) (hg : Glob w) :
  Calls Tryz.prog 110 #[v, .string s, u, .int .i64 (n : Nat)] w fun e w' => (∃ v l, l.length = n ∧ e = .returned v ∧ Sl w' v l) ∧ Below w.heap.size w w' := by
 obtain ⟨i0, hi, hz0, hz1, hz2⟩ := info_parts info8
 obtain ⟨ao, cap, rfl, -⟩ := id hs
 obtain ⟨bo, bcap, rfl, -⟩ := id hu
 have HS := Lib.hid hs
 have HU := Lib.hid hu
 have HG := Lib.hid hg
 have HK := Lib.hid (And.intro hk (And.intro hc (And.intro hl hn)))
 have p1 : decide ((255 : Int) < 6 + (s.size : Nat)) = false := decide_eq_false (by omega)
 have p2 : decide ((255 : Int) < (ctx.length : Nat)) = false := decide_eq_false (by omega)
 have p3 : decide ((n : Int) < 0) = false := decide_eq_false (by omega)
 have p4 : decide ((8160 : Int) < (n : Nat)) = false := decide_eq_false (by omega)
 have p5 : ¬ 9223372036854775807 < 6 + s.size := by omega
 have p6 : ¬ (255 : Int) < 6 + (s.size : Nat) := by omega
 clear hs hg hk hu hc hl hn
 go_enter Tryz.func110, Tryz.ntmps110
 go_wp2_with (at_builtin; refine Classical.byContradiction ?_)
 obtain ⟨a1, h1⟩ := mod8 ((n : Int) / 256)
 obtain ⟨a2, h2⟩ := mod8 (n : Int)
 obtain ⟨a3, h3⟩ := mod8 (6 + (s.size : Nat) : Int)
 rw [show (6 + (s.size : Nat) : Int) % 256 = 6 + (s.size : Nat) by have := HK.out; omega] at h3
 rw [h1, h2, h3]
 intro hh; apply hh; clear hh
 obtain ⟨t, ht⟩ : ∃ t : ByteArray, (⟨#[116, 108, 115, 49, 51, 32]⟩ : ByteArray) ++ s = t := ⟨_, rfl⟩
 have htz : t.size = 6 + s.size := by rw [← ht, ByteArray.size_append]; rfl
 rw [ht]
 refine Lib.wpList_append_own_string _ rfl _ _ 22 9 rfl w.heap.size 5 i0 Tryz.underlying22 Tryz.underlying9 hi hz0 hz1 hz2 (.slice (some ⟨w.heap.size, 0, none⟩) 3 3) 3 [bv a1, bv a2, bv a3] rfl (own_three w a1 a2 a3) t rfl (by have := HK.out; unfold maxLen; omega) (by have := HK.out; omega) (by simp) ?_
 intro v1 w1 o1 g1 _
 have o1' : OwnB w1 w.heap.size v1 ([a1, a2, a3] ++ t.data.toList) := own_str o1
 obtain ⟨ao1, cap1, rfl, -⟩ := id o1'.sl
 have hL1 : ([a1, a2, a3] ++ t.data.toList).length ≤ 200 := by
  have := HK.out
  have e : t.data.toList.length = t.size := by rw [Array.length_toList]; rfl
  rw [List.length_append, e]; simp; omega
 have b1 : Below w.heap.size w w1 := below_grown ((Below.refl _ _).alloc (Nat.le_refl _) _) g1 (fun q e => by simp only [Value.ownBlock, Option.some.injEq] at e; omega) (by simp)
 generalize [a1, a2, a3] ++ t.data.toList = L1 at *
 have O1 := Lib.hid o1'
 have B1 := Lib.hid b1
 have HL1 := Lib.hid hL1
 clear o1 o1' g1 b1 hL1 htz ht h1 h2 h3
 go_wp2_with (at_builtin; refine Classical.byContradiction ?_)
 obtain ⟨a4, h4⟩ := mod8 ((ctx.length : Nat) : Int)
 rw [h4]
 intro hh; apply hh; clear hh
 refine app_sl rfl _ _ 22 rfl w.heap.size 5 i0 Tryz.underlying22 hi hz0 hz1 hz2 (.slice ao1 L1.length cap1) L1 rfl (own_below O1.out ((Below.refl _ _).alloc (Nat.le_refl _) _)) (.slice (some ⟨w1.heap.size, 0, none⟩) 1 1) [a4] rfl (Own.sl (own_one w1 0 a4 (Nat.zero_le _))) (by have := HL1.out; simp; omega) (by have := B1.out.size; simp; omega) ?_
 intro v2 w2 o2 g2
 obtain ⟨ao2, cap2, rfl, -⟩ := id (Own.sl o2)
 have hL2 : (L1 ++ [a4]).length ≤ 201 := by have := HL1.out; rw [List.length_append]; simp; omega
 have b2 : Below w.heap.size w w2 := below_grown (B1.out.alloc B1.out.size _) g2 (fun q e => (O1.out.lt q e).1) (by have := B1.out.size; simp; omega)
 have o2' : OwnB w2 w.heap.size (.slice ao2 (L1 ++ [a4]).length cap2) (L1 ++ [a4]) := o2
 clear o2
 generalize L1 ++ [a4] = L2 at *
 have O2 := Lib.hid o2'
 have B2 := Lib.hid b2
 have HL2 := Lib.hid hL2
 clear o2' g2 b2 hL2 h4
 go_wp2_with (at_builtin; refine Classical.byContradiction ?_)
 intro hh; apply hh; clear hh
 refine app_sl rfl _ _ 22 rfl w.heap.size 5 i0 Tryz.underlying22 hi hz0 hz1 hz2 (.slice ao2 L2.length cap2) L2 rfl O2.out (.slice bo ctx.length bcap) ctx rfl (HU.out.below B2.out) (by have := HL2.out; have := HK.out; omega) B2.out.size ?_
 intro v3 w3 o3 g3
 obtain ⟨ao3, cap3, rfl, -⟩ := id (Own.sl o3)
 have hL3 : (L2 ++ ctx).length ≤ 1000 := by have := HL2.out; have := HK.out; rw [List.length_append]; omega
 have b3 : Below w.heap.size w w3 := below_grown B2.out g3 (fun q e => (O2.out.lt q e).1) B2.out.size
 have o3' : OwnB w3 w.heap.size (.slice ao3 (L2 ++ ctx).length cap3) (L2 ++ ctx) := o3
 clear o3
 generalize L2 ++ ctx = L3 at *
 have O3 := Lib.hid o3'
 have B3 := Lib.hid b3
 have HL3 := Lib.hid hL3
 clear o3' g3 b3 hL3
 go_wp2_with fail
 refine (expand_any key L3 HK.out.1 (by have := HL3.out; omega) n HK.out.2.2.2 _ _ _ (HS.out.below B3.out) O3.out.sl (HG.out.below B3.out)).mono ?_
 rintro e w4 ⟨⟨v4, l4, hl4, rfl, s4⟩, b4⟩
 have H4 := Lib.hid (And.intro hl4 (And.intro s4 (B3.out.trans (b4.mono B3.out.size))))
 clear hl4 s4 b4
 go_wp2_with fail
 go_ret
 exact ⟨⟨_, l4, H4.out.1, rfl, H4.out.2.1⟩, H4.out.2.2⟩
end Go.Proofs.YthjbmggpleliaaaGreatDoor

end
