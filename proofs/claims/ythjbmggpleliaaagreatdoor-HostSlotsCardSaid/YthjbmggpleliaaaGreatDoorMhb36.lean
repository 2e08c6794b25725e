/- LibQ; FrmB; FrmG. -/
import Derived.Test.YthjbmggpleliaaaGreatDoorMhb3
import Derived.Test.YthjbmggpleliaaaGreatDoorMhb35
import Derived.Test.YthjbmggpleliaaaGreatDoorMhbVarW
import Derived.Test.YthjbmggpleliaaaGreatDoorMhb17
section
namespace Go.Rw
open Go Go.RowKit
variable {P : Program}
def rlo (l : List (Nat × Nat)) (k : Nat) : Nat := (l.getD k (0, 0)).1
def rhi (l : List (Nat × Nat)) (k : Nat) : Nat := (l.getD k (0, 0)).2
def Sr (w : World) (v : Value) (l : List (Nat × Nat)) : Prop :=
 ∃ ao cap, v = .slice ao l.length cap ∧ l.length ≤ cap ∧ (ao = none → cap = 0) ∧ (0 < l.length → ∃ b off, ao = some ⟨b, off, none⟩ ∧
  ∀ k, k < l.length → w.cell? ⟨b, off + k * 2, none⟩ = some (.int .u64 (rlo l k : Nat)) ∧ w.cell? ⟨b, off + k * 2 + 1, none⟩ = some (.int .u64 (rhi l k : Nat)))
theorem Sr.nil (w : World) : Sr w (.slice none 0 0) [] := ⟨none, 0, rfl, Nat.le_refl _, fun _ => rfl, fun h => by simp at h⟩
theorem Sr.below {w w' : World} {v : Value} {l : List (Nat × Nat)} (h : Sr w v l) (hb : Below w.heap.size w w') : Sr w' v l := by
 obtain ⟨ao, cap, rfl, hc, hn, hp⟩ := h
 refine ⟨ao, cap, rfl, hc, hn, fun h0 => ?_⟩
 obtain ⟨b, off, rfl, hcell⟩ := hp h0
 exact ⟨b, off, rfl, fun k hk => ⟨by rw [← (hcell k hk).1]; exact World.cell?_of_block (hb.block b (cell_lt (hcell k hk).1)), by rw [← (hcell k hk).2]; exact World.cell?_of_block (hb.block b (cell_lt (hcell k hk).1))⟩⟩
theorem Sr.grown {w w' : World} {v : Value} {l : List (Nat × Nat)} {r : Option Nat} (h : Sr w v l) (hg : w.grownBy w' r) (hne : ∀ b off n cap, v = .slice (some ⟨b, off, none⟩) n cap → 0 < n → some b ≠ r) : Sr w' v l := by
 obtain ⟨ao, cap, rfl, hc, hn, hp⟩ := h
 refine ⟨ao, cap, rfl, hc, hn, fun h0 => ?_⟩
 obtain ⟨b, off, rfl, hcell⟩ := hp h0
 exact ⟨b, off, rfl, fun k hk => ⟨by rw [← (hcell k hk).1]; exact World.cell?_of_block (hg.block b (cell_lt (hcell k hk).1) (hne b off _ _ rfl h0)), by rw [← (hcell k hk).2]; exact World.cell?_of_block (hg.block b (cell_lt (hcell k hk).1) (hne b off _ _ rfl h0))⟩⟩
theorem load_two {t : Nat} (A : Agg P t 2) (w : World) (b o : Nat) (x y : Value) (hx : w.cell? ⟨b, o, none⟩ = some x) (hy : w.cell? ⟨b, o + 1, none⟩ = some y) :
  (loadAgg t (.pointer (some ⟨b, o, none⟩))).run P w = .ok (.agg #[x, y]) w := by
 obtain ⟨d, hu, hd⟩ := A.und
 have := run_loadAt_mid (P := P) w b o t [x, y] d (fun j v hv => by
  match j, hv with
  | 0, hv => simp at hv; subst hv; exact hx
  | 1, hv => simp at hv; subst hv; exact hy) hu hd (by rw [A.size]; rfl)
 exact this
end Go.Rw
namespace Go.Proofs.YthjbmggpleliaaaGreatDoor
open Go.RowKit Go.Rw
theorem AgRg : Agg Tryz.prog 234 2 := ⟨⟨_, Tryz.underlying234, rfl⟩, by kernel_rfl⟩
theorem ldRg (x : Value) : Instr.loadAt 234 x = loadAgg 234 x := rfl
theorem stRg (x y : Value) : Instr.storeAt 234 x y = storeAgg 234 x y := rfl
theorem alRg : Instr.alloc 234 true (.tuple #[]) = allocAgg 234 := rfl
theorem rldRg (w : World) (b : Nat) (h : (row? w b).map (·.size) = some 2) : (loadAgg 234 (.pointer (some ⟨b, 0, none⟩))).run Tryz.prog w = .ok (.agg ((row? w b).getD #[])) w := load_rule AgRg w b h
theorem rstRg (w : World) (b : Nat) (c' : Array Value) (h : (row? w b).map (·.size) = some 2) (hn : c'.size = 2) (h1 : allOne c' = true) : (storeAgg 234 (.pointer (some ⟨b, 0, none⟩)) (.agg c')).run Tryz.prog w = .ok () (w.setRow b c') := store_rule AgRg w b c' h hn h1
theorem rstRg2 (w : World) (b : Nat) (x y : Int) (h : (row? w b).map (·.size) = some 2) : (storeAgg 234 (.pointer (some ⟨b, 0, none⟩)) (.agg #[.int .u64 x, .int .u64 y])).run Tryz.prog w = .ok () (w.setRow b #[.int .u64 x, .int .u64 y]) := rstRg w b _ h rfl (by simp [allOne, Value.oneCell'])
theorem ralRg (w : World) : (allocAgg 234).run Tryz.prog w = .ok (.pointer (some ⟨w.heap.size, 0, none⟩)) (w.alloc (.cells #[.int .u64 0, .int .u64 0] 234)) := alloc_rule (n := 2) (by kernel_rfl) w
end Go.Proofs.YthjbmggpleliaaaGreatDoor

end
section
namespace Frm
open Go Go.RowKit Go.Rw Hdr
structure Fr where
 k : Int
 n : Nat
 d : Nat
 rs : List (Nat × Nat)
 i : Nat
 o : Nat
 fin : Bool
 dat : List UInt8
 cid : List UInt8
 tok : List UInt8
def Fr.may (f : Fr) : Bool := mayB f.k f.n f.d f.rs.length (rsOk f.rs) f.i f.o f.fin f.dat.length f.cid.length f.tok.length
def vP (n : Nat) : List UInt8 := vin n (vlen n)
theorem vP_length (n : Nat) : (vP n).length = vlen n := vin_length _ _
def ackG (l : List (Nat × Nat)) (i : Nat) : List UInt8 := vP (rlo l i - rhi l (i + 1) - 2) ++ vP (rhi l (i + 1) - rlo l (i + 1))
def ackR (l : List (Nat × Nat)) (k : Nat) : List UInt8 := (List.range k).flatMap (ackG l)
theorem ackR_succ (l : List (Nat × Nat)) (k : Nat) : ackR l (k + 1) = ackR l k ++ ackG l k := by simp [ackR, List.range_succ]
def ackB (d : Nat) (l : List (Nat × Nat)) : List UInt8 := vP (rhi l 0) ++ vP d ++ vP (l.length - 1) ++ vP (rhi l 0 - rlo l 0)
def Fr.put (f : Fr) : List UInt8 :=
 if f.k = 0 then List.replicate f.n 0
 else if f.k = 2 then [2] ++ ackB f.d f.rs ++ ackR f.rs (f.rs.length - 1)
 else if f.k = 6 then [6] ++ vP f.o ++ vP f.dat.length ++ f.dat
 else if f.k = 8 then [if f.fin then 15 else 14] ++ vP f.i ++ vP f.o ++ vP f.dat.length ++ f.dat
 else if f.k = 16 then [16] ++ vP f.n
 else if f.k = 25 then [25] ++ vP f.n
 else if f.k = 24 then [24] ++ vP f.n ++ [0, 8] ++ f.cid ++ f.tok
 else if f.k = 26 then [26] ++ f.dat
 else if f.k = 27 then [27] ++ f.dat
 else if f.k = 28 then [28] ++ vP f.n ++ [0, 0]
 else if f.k = 30 then [30] else [1]
def Fr.laid (f : Fr) : List UInt8 := if f.may then f.put else []
def Fv (w : World) (v : Value) (f : Fr) : Prop :=
 ∃ vr vd vc vt, v = .agg (fvA f.k f.n f.d vr f.i f.o f.fin vd vc vt) ∧ Sr w vr f.rs ∧ Sl w vd f.dat ∧ Sl w vc f.cid ∧ Sl w vt f.tok
theorem Fv.below {w w' : World} {v : Value} {f : Fr} (h : Fv w v f) (hb : Below w.heap.size w w') : Fv w' v f := by
 obtain ⟨vr, vd, vc, vt, rfl, h1, h2, h3, h4⟩ := h
 exact ⟨vr, vd, vc, vt, rfl, h1.below hb, h2.below hb, h3.below hb, h4.below hb⟩
def Fr.fits (f : Fr) : Prop := f.rs.length ≤ 1000000 ∧ f.dat.length ≤ 1000000 ∧ f.cid.length ≤ 1000000 ∧ f.tok.length ≤ 1000000
structure PS (w : World) (F : Array Value) (w' : World) : Prop where
 row : row? w' w.heap.size = some F
 bel : Below w.heap.size w w'
theorem PS.step {w : World} {F : Array Value} {w' w'' : World} (h : PS w F w') (hb : Below w'.heap.size w' w'') : PS w F w'' :=
 ⟨by rw [row?_below hb (row?_lt h.row)]; exact h.row, h.bel.trans (hb.mono h.bel.size)⟩
theorem PS.size {w : World} {F : Array Value} {w' : World} (h : PS w F w') : w.heap.size + 1 ≤ w'.heap.size := row?_lt h.row
theorem PS.grown {w : World} {F : Array Value} {w' w'' : World} {r : Option Nat} (h : PS w F w') (g : w'.grownBy w'' r) (hr : ∀ k, r = some k → w.heap.size + 1 ≤ k) : PS w F w'' :=
 ⟨row_grown g h.row (by intro e; have := hr _ e.symm; omega), h.bel.grown g h.bel.size (fun k hk => by have := hr k hk; omega)⟩
theorem PS.drew {w : World} {F : Array Value} {w' : World} (h : PS w F w') : PS w F w'.drew := ⟨(row?_drew _ _).trans h.row, h.bel.drew⟩
theorem rsOk_pos {l : List (Nat × Nat)} (h : rsOk l = true) : 1 ≤ l.length := by
 simp only [rsOk, Bool.and_eq_true, decide_eq_true_eq] at h
 exact h.1.1
theorem plainB_true {n d nr i o : Nat} {fin : Bool} {nd nc nt : Nat} (h : plainB n d nr i o fin nd nc nt = true) : n = 0 ∧ d = 0 ∧ nr = 0 ∧ i = 0 ∧ o = 0 ∧ fin = false ∧ nd = 0 ∧ nc = 0 ∧ nt = 0 := by
 simpa [plainB, and_assoc] using h
end Frm

end
section
namespace Frm
open Go Go.RowKit Go.Rw Hdr
def fr0 : Fr := ⟨0, 0, 0, [], 0, 0, false, [], [], []⟩
def rzero (b : List UInt8) (s : Nat × Int) : Nat × Int := rfail (decide ((rvar b s).2 ≠ 0)) 5 (rvar b s).1
def rgo (b : List UInt8) (many hi : Nat) (s : Nat × Int) (acc : List (Nat × Nat)) : (Nat × Int) × List (Nat × Nat) :=
 let s2 := rfail (decide (hi < (rvar b s).2)) 5 (rvar b s).1
 if s2.2 ≠ 0 then (s2, acc) else
  match many with
  | 0 => (s2, acc ++ [(hi - (rvar b s).2, hi)])
  | m + 1 =>
   let s4 := rfail (decide ((rvar b s2).1.2 = 0) && (decide (hi - (rvar b s).2 < 2) || decide (hi - (rvar b s).2 - 2 < (rvar b s2).2))) 5 (rvar b s2).1
   if s4.2 ≠ 0 then (s4, acc ++ [(hi - (rvar b s).2, hi)]) else rgo b m (hi - (rvar b s).2 - 2 - (rvar b s2).2) s4 (acc ++ [(hi - (rvar b s).2, hi)])
def rack (b : List UInt8) (s : Nat × Int) (f : Fr) : (Nat × Int) × Fr :=
 let h := rvar b s
 let d := rvar b h.1
 let m := rvar b d.1
 let r := rgo b m.2 h.2 (rfail (decide (8 ≤ m.2)) 5 m.1) f.rs
 (r.1, { f with d := d.2, rs := r.2 })
def rbytes (b : List UInt8) (s : Nat × Int) (f : Fr) : (Nat × Int) × Fr :=
 let o := rvar b s
 let n := rvar b o.1
 let t := rtake b n.2 (rfail (decide (16383 < n.2) || decide (4611686018427387903 - n.2 < o.2)) 5 n.1)
 (t.1, { f with o := o.2, dat := t.2 })
def rcid (b : List UInt8) (s : Nat × Int) (f : Fr) : (Nat × Int) × Fr :=
 let n := rvar b s
 let k := rtake b 1 (rzero b n.1)
 let c := rtake b 8 (rfail (decide (k.2.length = 1) && (nth k.2 0 != 8)) 5 k.1)
 let t := rtake b 16 c.1
 (t.1, { f with n := n.2, cid := c.2, tok := t.2 })
def rbody (b : List UInt8) (s : Nat × Int) (f : Fr) : (Nat × Int) × Fr :=
 if f.k = 1 ∨ f.k = 30 then (s, f)
 else if f.k = 2 then rack b s f
 else if f.k = 6 then rbytes b s f
 else if f.k = 14 ∨ f.k = 15 then rbytes b (rvar b s).1 { f with fin := (f.k == 15), k := 8, i := (rvar b s).2 }
 else if f.k = 16 ∨ f.k = 25 then ((rvar b s).1, { f with n := (rvar b s).2 })
 else if f.k = 24 then rcid b s f
 else if f.k = 26 ∨ f.k = 27 then ((rtake b 8 s).1, { f with dat := (rtake b 8 s).2 })
 else if f.k = 28 then (rzero b (rzero b (rvar b s).1), { f with n := (rvar b s).2 })
 else ((s.1, 6), f)
def zrun (b : List UInt8) : Nat := ((b.take 16384).takeWhile (· == 0)).length
def fget (b : List UInt8) : Fr × Nat × Int :=
 if b.length = 0 then (fr0, 0, 3) else if 63 < n8 (nth b 0) then (fr0, 0, 6)
 else if nth b 0 = 0 then ({ fr0 with n := zrun b }, zrun b, 0)
 else
  let r := rbody b (1, 0) { fr0 with k := (n8 (nth b 0) : Nat) }
  if r.1.2 ≠ 0 then (fr0, 0, r.1.2) else (r.2, r.1.1, 0)
structure RS (b : List UInt8) (w0 : World) (vb : Value) (B : Nat) (w : World) (s : Nat × Int) : Prop where
 row : row? w B = some #[vb, .int .i64 (s.1 : Nat), .int .i64 s.2]
 at_ : s.1 ≤ b.length
 len : b.length ≤ 1000000
 sl : Sl w0 vb b
 bel : Below w0.heap.size w0 w
 low : w0.heap.size ≤ B
theorem RS.mut {b : List UInt8} {w0 : World} {vb : Value} {B : Nat} {w w' : World} {s s' : Nat × Int} (h : RS b w0 vb B w s) (m : Mut B w w') (hr : row? w' B = some #[vb, .int .i64 (s'.1 : Nat), .int .i64 s'.2]) (ha : s'.1 ≤ b.length) : RS b w0 vb B w' s' :=
 ⟨hr, ha, h.len, h.sl, h.bel.trans (m.below h.low h.bel.size), h.low⟩
def rcells (l : List (Nat × Nat)) : List Value := l.flatMap fun r => [.int .u64 (r.1 : Nat), .int .u64 (r.2 : Nat)]
theorem rcells_get (l : List (Nat × Nat)) : ∀ k, k < l.length → (rcells l)[k * 2]? = some (.int .u64 (rlo l k : Nat)) ∧ (rcells l)[k * 2 + 1]? = some (.int .u64 (rhi l k : Nat)) := by
 induction l with
 | nil => intro k hk; simp at hk
 | cons r l ih =>
  intro k hk
  cases k with
  | zero => simp [rcells, rlo, rhi]
  | succ k =>
   have h := ih k (by simpa using hk)
   have e1 : (k + 1) * 2 = k * 2 + 2 := by omega
   have e2 : rlo (r :: l) (k + 1) = rlo l k := by simp [rlo]
   have e3 : rhi (r :: l) (k + 1) = rhi l k := by simp [rhi]
   rw [e1, e2, e3]
   simpa [rcells] using h
theorem Own.sr {w : World} {B : Nat} {e : TypeId} {v : Value} {l : List (Nat × Nat)} (h : w.ownsRow B e 2 v l.length (rcells l)) : Sr w v l := by
 have h2 := h.2
 rcases h2 with ⟨rfl, h0⟩ | ⟨g, cap, cur, rfl, hb, hg, hnc, hcm, hcs, htake⟩
 ·obtain rfl : l = [] := List.eq_nil_of_length_eq_zero h0
  exact Sr.nil w
 ·have hat : ∀ j, j < l.length * 2 → w.cell? ⟨g, j, none⟩ = (rcells l)[j]? := fun j hj => by
   rw [cell_of_row w g j cur e (0, 0) hg, ← htake, List.getElem?_take, if_pos (by simpa using hj), Array.getElem?_toList]
  refine ⟨_, cap, rfl, hnc, fun h => (by cases h), fun _ => ⟨g, 0, rfl, fun k hk => ?_⟩⟩
  have := rcells_get l k hk
  rw [Nat.zero_add]
  exact ⟨by rw [hat _ (by omega)]; exact this.1, by rw [hat _ (by omega)]; exact this.2⟩
structure FA (N : Nat) (tr tb : TypeId) (Bf : Nat) (w : World) (vr vd vc vt : Value) (f : Fr) : Prop where
 row : row? w Bf = some (fvA f.k f.n f.d vr f.i f.o f.fin vd vc vt)
 rs : w.ownsRow N tr 2 vr f.rs.length (rcells f.rs)
 dat : w.ownsRow N tb 1 vd f.dat.length (f.dat.map bv)
 cid : w.ownsRow N tb 1 vc f.cid.length (f.cid.map bv)
 tok : w.ownsRow N tb 1 vt f.tok.length (f.tok.map bv)
theorem Mut.ownS {B N n sz : Nat} {e : TypeId} {v : Value} {xs : List Value} {w w' : World} (h : Mut B w w') (ho : w.ownsRow N e sz v n xs) (hN : B < N) : w'.ownsRow N e sz v n xs := by
 have hg : w.grownBy w' (some B) := ⟨h.os, h.tape, h.output, h.size, fun k hk hne => h.block k hk (fun e => hne (by rw [e]))⟩
 cases hv : v.ownBlock with
 | none => exact ho.kept hg (.inl hv)
 | some k => exact ho.kept hg (.inr (by rw [hv]; intro e; injection e with e; have := (ho.lt k hv).1; omega))
theorem FA.mut {N : Nat} {tr tb : TypeId} {B Bf : Nat} {w w' : World} {vr vd vc vt : Value} {f : Fr} (h : FA N tr tb Bf w vr vd vc vt f) (m : Mut B w w') (hne : Bf ≠ B) (hN : B < N) : FA N tr tb Bf w' vr vd vc vt f :=
 ⟨m.row h.row hne, Mut.ownS m h.rs hN, Mut.ownS m h.dat hN, Mut.ownS m h.cid hN, Mut.ownS m h.tok hN⟩
theorem FA.set {N : Nat} {tr tb : TypeId} {Bf : Nat} {w : World} {vr vd vc vt : Value} {f : Fr} (h : FA N tr tb Bf w vr vd vc vt f) (hN : Bf < N) (j : Nat) (x : Value) {f' : Fr} {vr' vd' vc' vt' : Value}
  (e : (fvA f.k f.n f.d vr f.i f.o f.fin vd vc vt).setIfInBounds j x = fvA f'.k f'.n f'.d vr' f'.i f'.o f'.fin vd' vc' vt')
  (hr : w.ownsRow N tr 2 vr' f'.rs.length (rcells f'.rs)) (hd : w.ownsRow N tb 1 vd' f'.dat.length (f'.dat.map bv)) (hc : w.ownsRow N tb 1 vc' f'.cid.length (f'.cid.map bv)) (ht : w.ownsRow N tb 1 vt' f'.tok.length (f'.tok.map bv)) :
  FA N tr tb Bf (w.setCell ⟨Bf, j, none⟩ x) vr' vd' vc' vt' f' := by
 have m : Mut Bf w (w.setCell ⟨Bf, j, none⟩ x) := (Mut.refl _ _).setCell _ _ _
 exact ⟨by rw [row?_setCell_eq h.row, e], Mut.ownS m hr hN, Mut.ownS m hd hN, Mut.ownS m hc hN, Mut.ownS m ht hN⟩
end Frm

end
