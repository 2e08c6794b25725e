/- LibQ; FrmB. -/
import Derived.Test.YtipniobgijdlkaaMgs2
import Derived.Test.YtipniobgijdlkaaMgs9
import Derived.Test.YtipniobgijdlkaaMgs5
section
/- Slices of ranges: what a slice's value reads. Over any program. -/
namespace Go.Rw
open Go Go.RowKit
variable {P : Program}
/-- An element's two ends; 0 beyond the end. Closed to simp. -/
def rlo (l : List (Nat × Nat)) (k : Nat) : Nat := (l.getD k (0, 0)).1
def rhi (l : List (Nat × Nat)) (k : Nat) : Nat := (l.getD k (0, 0)).2
/-- A slice's value reads a list of ranges. -/
def Sr (w : World) (v : Value) (l : List (Nat × Nat)) : Prop :=
  ∃ ao cap, v = .slice ao l.length cap ∧ l.length ≤ cap ∧ (ao = none → cap = 0) ∧ (0 < l.length → ∃ b off, ao = some ⟨b, off, none⟩ ∧
    ∀ k, k < l.length → w.cell? ⟨b, off + k * 2, none⟩ = some (.int .u64 (rlo l k : Nat)) ∧ w.cell? ⟨b, off + k * 2 + 1, none⟩ = some (.int .u64 (rhi l k : Nat)))
theorem Sr.nil (w : World) : Sr w (.slice none 0 0) [] := ⟨none, 0, rfl, Nat.le_refl _, fun _ => rfl, fun h => by simp at h⟩
theorem Sr.below {w w' : World} {v : Value} {l : List (Nat × Nat)} (h : Sr w v l) (hb : Below w.heap.size w w') : Sr w' v l := by
  obtain ⟨ao, cap, rfl, hc, hn, hp⟩ := h
  refine ⟨ao, cap, rfl, hc, hn, fun h0 => ?_⟩
  obtain ⟨b, off, rfl, hcell⟩ := hp h0
  exact ⟨b, off, rfl, fun k hk => ⟨by rw [← (hcell k hk).1]; exact World.cell?_of_block (hb.block b (cell_lt (hcell k hk).1)), by rw [← (hcell k hk).2]; exact World.cell?_of_block (hb.block b (cell_lt (hcell k hk).1))⟩⟩
theorem Sr.grown {w w' : World} {v : Value} {l : List (Nat × Nat)} {r : Option Nat} (h : Sr w v l) (hg : w.grownBy w' r) (hne : ∀ b off n cap, v = .slice (some ⟨b, off, none⟩) n cap → 0 < n → some b ≠ r) : Sr w' v l := by
  obtain ⟨ao, cap, rfl, hc, hn, hp⟩ := h
  refine ⟨ao, cap, rfl, hc, hn, fun h0 => ?_⟩
  obtain ⟨b, off, rfl, hcell⟩ := hp h0
  exact ⟨b, off, rfl, fun k hk => ⟨by rw [← (hcell k hk).1]; exact World.cell?_of_block (hg.block b (cell_lt (hcell k hk).1) (hne b off _ _ rfl h0)), by rw [← (hcell k hk).2]; exact World.cell?_of_block (hg.block b (cell_lt (hcell k hk).1) (hne b off _ _ rfl h0))⟩⟩
/-- One element, by value. -/
theorem load_two {t : Nat} (A : Agg P t 2) (w : World) (b o : Nat) (x y : Value) (hx : w.cell? ⟨b, o, none⟩ = some x) (hy : w.cell? ⟨b, o + 1, none⟩ = some y) :
    (loadAgg t (.pointer (some ⟨b, o, none⟩))).run P w = .ok (.agg #[x, y]) w := by
  obtain ⟨d, hu, hd⟩ := A.und
  have := run_loadAt_mid (P := P) w b o t [x, y] d (fun j v hv => by
    match j, hv with
    | 0, hv => simp at hv; subst hv; exact hx
    | 1, hv => simp at hv; subst hv; exact hy) hu hd (by rw [A.size]; rfl)
  exact this
end Go.Rw
namespace Go.Proofs.Ytipniobgijdlkaa
open Go.RowKit Go.Rw
theorem AgRg : Agg Try.prog 58 2 := ⟨⟨_, Try.underlying58, rfl⟩, by kernel_rfl⟩
theorem ldRg (x : Value) : Instr.loadAt 58 x = loadAgg 58 x := rfl
theorem stRg (x y : Value) : Instr.storeAt 58 x y = storeAgg 58 x y := rfl
theorem alRg : Instr.alloc 58 true (.tuple #[]) = allocAgg 58 := rfl
theorem rldRg (w : World) (b : Nat) (h : (row? w b).map (·.size) = some 2) : (loadAgg 58 (.pointer (some ⟨b, 0, none⟩))).run Try.prog w = .ok (.agg ((row? w b).getD #[])) w := load_rule AgRg w b h
theorem rstRg (w : World) (b : Nat) (c' : Array Value) (h : (row? w b).map (·.size) = some 2) (hn : c'.size = 2) (h1 : allOne c' = true) : (storeAgg 58 (.pointer (some ⟨b, 0, none⟩)) (.agg c')).run Try.prog w = .ok () (w.setRow b c') := store_rule AgRg w b c' h hn h1
theorem rstRg2 (w : World) (b : Nat) (x y : Int) (h : (row? w b).map (·.size) = some 2) : (storeAgg 58 (.pointer (some ⟨b, 0, none⟩)) (.agg #[.int .u64 x, .int .u64 y])).run Try.prog w = .ok () (w.setRow b #[.int .u64 x, .int .u64 y]) := rstRg w b _ h rfl (by simp [allOne, Value.oneCell'])
theorem ralRg (w : World) : (allocAgg 58).run Try.prog w = .ok (.pointer (some ⟨w.heap.size, 0, none⟩)) (w.alloc (.cells #[.int .u64 0, .int .u64 0] 58)) := alloc_rule (n := 2) (by kernel_rfl) w
end Go.Proofs.Ytipniobgijdlkaa
end
section
/- Frames in plain words: one frame, whether it may be, how it is laid; what a value of one reads. -/
namespace Frm
open Go Go.RowKit Go.Rw Hdr
structure Fr where
  k : Int
  n : Nat
  d : Nat
  rs : List (Nat × Nat)
  i : Nat
  o : Nat
  fin : Bool
  dat : List UInt8
  cid : List UInt8
  tok : List UInt8
def Fr.may (f : Fr) : Bool := mayB f.k f.n f.d f.rs.length (rsOk f.rs) f.i f.o f.fin f.dat.length f.cid.length f.tok.length
/-- A number in its least bytes. -/
def vP (n : Nat) : List UInt8 := vin n (vlen n)
theorem vP_length (n : Nat) : (vP n).length = vlen n := vin_length _ _
/-- A gap, and a length, of an Ack. -/
def ackG (l : List (Nat × Nat)) (i : Nat) : List UInt8 := vP (rlo l i - rhi l (i + 1) - 2) ++ vP (rhi l (i + 1) - rlo l (i + 1))
def ackR (l : List (Nat × Nat)) (k : Nat) : List UInt8 := (List.range k).flatMap (ackG l)
theorem ackR_succ (l : List (Nat × Nat)) (k : Nat) : ackR l (k + 1) = ackR l k ++ ackG l k := by simp [ackR, List.range_succ]
def ackB (d : Nat) (l : List (Nat × Nat)) : List UInt8 := vP (rhi l 0) ++ vP d ++ vP (l.length - 1) ++ vP (rhi l 0 - rlo l 0)
/-- How a frame is laid. -/
def Fr.put (f : Fr) : List UInt8 :=
  if f.k = 0 then List.replicate f.n 0
  else if f.k = 2 then [2] ++ ackB f.d f.rs ++ ackR f.rs (f.rs.length - 1)
  else if f.k = 6 then [6] ++ vP f.o ++ vP f.dat.length ++ f.dat
  else if f.k = 8 then [if f.fin then 15 else 14] ++ vP f.i ++ vP f.o ++ vP f.dat.length ++ f.dat
  else if f.k = 16 then [16] ++ vP f.n
  else if f.k = 25 then [25] ++ vP f.n
  else if f.k = 24 then [24] ++ vP f.n ++ [0, 8] ++ f.cid ++ f.tok
  else if f.k = 26 then [26] ++ f.dat
  else if f.k = 27 then [27] ++ f.dat
  else if f.k = 28 then [28] ++ vP f.n ++ [0, 0]
  else if f.k = 30 then [30] else [1]
def Fr.laid (f : Fr) : List UInt8 := if f.may then f.put else []
/-- A value reads a frame. -/
def Fv (w : World) (v : Value) (f : Fr) : Prop :=
  ∃ vr vd vc vt, v = .agg (fvA f.k f.n f.d vr f.i f.o f.fin vd vc vt) ∧ Sr w vr f.rs ∧ Sl w vd f.dat ∧ Sl w vc f.cid ∧ Sl w vt f.tok
theorem Fv.below {w w' : World} {v : Value} {f : Fr} (h : Fv w v f) (hb : Below w.heap.size w w') : Fv w' v f := by
  obtain ⟨vr, vd, vc, vt, rfl, h1, h2, h3, h4⟩ := h
  exact ⟨vr, vd, vc, vt, rfl, h1.below hb, h2.below hb, h3.below hb, h4.below hb⟩
/-- The lists of a frame are none too long. -/
def Fr.fits (f : Fr) : Prop := f.rs.length ≤ 1000000 ∧ f.dat.length ≤ 1000000 ∧ f.cid.length ≤ 1000000 ∧ f.tok.length ≤ 1000000
/-- A call under way on a frame that lies in the first block of its own. -/
structure PS (w : World) (F : Array Value) (w' : World) : Prop where
  row : row? w' w.heap.size = some F
  bel : Below w.heap.size w w'
theorem PS.step {w : World} {F : Array Value} {w' w'' : World} (h : PS w F w') (hb : Below w'.heap.size w' w'') : PS w F w'' :=
  ⟨by rw [row?_below hb (row?_lt h.row)]; exact h.row, h.bel.trans (hb.mono h.bel.size)⟩
theorem PS.size {w : World} {F : Array Value} {w' : World} (h : PS w F w') : w.heap.size + 1 ≤ w'.heap.size := row?_lt h.row
theorem PS.grown {w : World} {F : Array Value} {w' w'' : World} {r : Option Nat} (h : PS w F w') (g : w'.grownBy w'' r) (hr : ∀ k, r = some k → w.heap.size + 1 ≤ k) : PS w F w'' :=
  ⟨row_grown g h.row (by intro e; have := hr _ e.symm; omega), h.bel.grown g h.bel.size (fun k hk => by have := hr k hk; omega)⟩
theorem PS.drew {w : World} {F : Array Value} {w' : World} (h : PS w F w') : PS w F w'.drew := ⟨(row?_drew _ _).trans h.row, h.bel.drew⟩
theorem rsOk_pos {l : List (Nat × Nat)} (h : rsOk l = true) : 1 ≤ l.length := by
  simp only [rsOk, Bool.and_eq_true, decide_eq_true_eq] at h
  exact h.1.1
theorem plainB_true {n d nr i o : Nat} {fin : Bool} {nd nc nt : Nat} (h : plainB n d nr i o fin nd nc nt = true) : n = 0 ∧ d = 0 ∧ nr = 0 ∧ i = 0 ∧ o = 0 ∧ fin = false ∧ nd = 0 ∧ nc = 0 ∧ nt = 0 := by
  simpa [plainB, and_assoc] using h
end Frm
end
