/- HdrW7; HdrW8; FrmG. -/
import Derived.Test.YtipniobgijdlkaaMgr4
import Derived.Test.YtipniobgijdlkaaLibP
import Derived.RegionTactic
import Derived.BigRegion
import Derived.Test.YtipniobgijdlkaaLibX
import Derived.Test.YtipniobgijdlkaaMgr7
section
/- The walks of a number that tells its own length, and of package header's reader with it: a name, a number. -/
namespace Go.Proofs.Ytipniobgijdlkaa
open Go.RowKit Go.Rw Hdr
attribute [local go_sem ↓] shift_shl8 shift_shr8 shift_shl64 shift_shr64
theorem shl1_0 : Op.shift .shl .i64 1 .u8 ((0 : Nat) : Int) = pure (.int .i64 1) := by kernel_rfl
theorem shl1_1 : Op.shift .shl .i64 1 .u8 ((1 : Nat) : Int) = pure (.int .i64 2) := by kernel_rfl
theorem shl1_2 : Op.shift .shl .i64 1 .u8 ((2 : Nat) : Int) = pure (.int .i64 4) := by kernel_rfl
theorem shl1_3 : Op.shift .shl .i64 1 .u8 ((3 : Nat) : Int) = pure (.int .i64 8) := by kernel_rfl
theorem shl1_many (c : UInt8) : Op.shift .shl .i64 1 .u8 (n8 (shr8 c 6) : Nat) = pure (.int .i64 (vmany c : Nat)) := by
  have h : n8 (shr8 c 6) = n8 c / 64 := n8_shr8 c 6
  have hc := n8_lt c
  have h3 : n8 c / 64 < 4 := by omega
  unfold vmany
  rw [h]
  generalize n8 c / 64 = k at h3
  match k, h3 with
  | 0, _ => exact shl1_0
  | 1, _ => exact shl1_1
  | 2, _ => exact shl1_2
  | 3, _ => exact shl1_3
theorem and63 (c : UInt8) : n8 (c &&& 63) = n8 c % 64 := by
  unfold n8
  rw [UInt8.toNat_and]
  exact Nat.and_two_pow_sub_one_eq_mod (n := 6) c.toNat
attribute [local go_sem ↓] shl1_many
/-- The number of the first bytes, from a beginning on. -/
def foldN (x : Nat) (l : List UInt8) : Nat := l.foldl (fun n c => n * 256 + n8 c) x
theorem foldN_succ (x : Nat) (l : List UInt8) (k : Nat) (h : k < l.length) : foldN x (l.take (k + 1)) = foldN x (l.take k) * 256 + n8 (nth l k) := by
  unfold foldN nth
  rw [List.take_add_one, List.foldl_append, List.getElem?_eq_getElem h]
  rfl
theorem foldN_lt {x k : Nat} (l : List UInt8) (hx : x < 64) (hk : (l.take k).length ≤ 6) : foldN x (l.take k) < 72057594037927936 := by
  refine Nat.lt_of_lt_of_le (fold_lt (l.take k) x) ?_
  exact Nat.le_trans (Nat.mul_le_mul (show x + 1 ≤ 64 by omega) (Nat.pow_le_pow_right (n := 256) (by decide) hk)) (by decide)

set_option maxRecDepth 20000 in
set_option maxHeartbeats 1000000 in
theorem vget_any (l : List UInt8) (hl : l.length ≤ 1000000) (v : Value) (w : World) (hs : Sl w v l) :
    Calls Try.prog 72 #[v] w fun e w' => e = .returned (.tuple #[.int .u64 ((vget l).1 : Nat), .int .i64 ((vget l).2.1 : Nat), .int .i64 (vget l).2.2]) ∧ w = w' := by
  have hs0 := hs
  obtain ⟨ao, cap, rfl, hc, hnn, hp⟩ := hs0
  clear hnn
  by_cases h0 : l.length = 0
  · have e : vget l = (0, 0, 3) := by unfold vget; rw [if_pos (.inl h0)]
    rw [e]
    go_enter Try.func72, Try.ntmps72
    go_wp2_with fail
    go_ret3
    exact ⟨rfl, rfl⟩
  obtain ⟨b, off, rfl, hcell⟩ := hp (by omega)
  clear hp
  have c0 : w.cell? ⟨b, off, none⟩ = some (.int .u8 (n8 (nth l 0) : Nat)) := by have := hcell 0 (by omega); simpa using this
  have hmp := vmany_pos (nth l 0)
  have hm8 := vmany_le (nth l 0)
  by_cases hsh : l.length < vmany (nth l 0)
  · have e : vget l = (0, 0, 3) := by unfold vget; rw [if_pos (.inr hsh)]
    rw [e]
    clear hcell hs
    go_enter Try.func72, Try.ntmps72
    go_wp2_with fail
    go_ret3
    exact ⟨rfl, rfl⟩
  have e : vget l = (vnum l, vmany (nth l 0), 0) := by unfold vget; rw [if_neg (by omega)]
  rw [e]
  unfold vnum
  have hsc := hs.cut 1 (vmany (nth l 0)) hmp (by omega)
  have hTl : ((l.take (vmany (nth l 0))).drop 1).length = vmany (nth l 0) - 1 := by simp; omega
  generalize (l.take (vmany (nth l 0))).drop 1 = T at hsc hTl ⊢
  obtain ⟨c, hcdef⟩ : ∃ c, c = nth l 0 := ⟨_, rfl⟩
  rw [← hcdef] at c0 hmp hm8 hsh e hsc hTl ⊢
  have hx := and63 c
  have hx64 : n8 (c &&& 63) < 64 := by omega
  rw [← hx]
  show Calls _ _ _ _ fun e w' => e = .returned (.tuple #[.int .u64 ((foldN (n8 (c &&& 63)) T : Nat) : Int), _, _]) ∧ _
  generalize hmany : vmany c = m at *
  have hcut : ∀ W, (Instr.sliceAt 25 (.slice (some ⟨b, off, none⟩) l.length cap) (some (.int .i64 1)) (some (.int .i64 (m : Nat))) none).run Try.prog W = .ok (.slice (cutA (some ⟨b, off, none⟩) 1 cap) (m - 1) (cap - 1)) W := fun W => by
    rw [cut_lh TB W _ _ _ _ _ _ _ (by decide) (by omega) (by omega), Int.toNat_natCast]; rfl
  obtain ⟨ao2, cap2, hv2, hc2, hnn2, hp2⟩ := hsc
  injection hv2 with hv2a hv2b hv2c
  clear hs hcell e hnn2 hcdef
  have HX := Lib.hid hx64
  have HTL := Lib.hid hTl
  clear hx hx64 hTl
  go_enter Try.func72, Try.ntmps72
  go_wp2_with fail
  go_loopw [6, 8, 36] (fun va vc v wr => ∃ k : Nat, k ≤ T.length ∧ va = .int .u64 (foldN (n8 (c &&& 63)) (T.take k) : Nat) ∧ v = .int .i64 k ∧ w = wr) (fun _ _ v _ => T.length - (intOf v).toNat)
  case atStart => exact ⟨0, by omega, by rw [n64_wide]; rfl, rfl, rfl⟩
  case round =>
    obtain ⟨k, hk, rfl, rfl, rfl⟩ := hrel
    by_cases hlt2 : k < T.length
    · obtain ⟨b1, off1, rfl, hcell1⟩ := hp2 (by omega)
      have c1 := hcell1 k hlt2
      have hxk := foldN_lt (x := n8 (c &&& 63)) (k := k) T HX.out (by have := HTL.out; rw [List.length_take]; omega)
      have hst := num_step (foldN (n8 (c &&& 63)) (T.take k)) (nth T k) hxk
      rw [← foldN_succ _ T k hlt2] at hst
      obtain ⟨X, hX⟩ : ∃ X : UInt64, X = UInt64.ofNat (foldN (n8 (c &&& 63)) (T.take k)) := ⟨_, rfl⟩
      have hq : foldN (n8 (c &&& 63)) (T.take k) = n64 X := by rw [hX]; exact (n64_ofNat _ (by omega)).symm
      rw [← hX] at hst
      rw [hq]
      have HS := Lib.hid hst
      clear hq hX hxk hst hcell1
      go_wp2_with fail
      go_roundw
      case rel => exact ⟨k + 1, by omega, by rw [← HS.out], by go_num, by first | rfl | trivial⟩
      case measure => simp [intOf]; omega
    · obtain rfl : k = T.length := by omega
      rw [List.take_length]
      go_wp2_with fail
      go_ret3
      exact ⟨rfl, rfl⟩
end Go.Proofs.Ytipniobgijdlkaa
end
section
/- The walks of package header's reader: a name; a number that tells its own length. -/
namespace Hdr
open Go.Rw
theorem rtake_le (b : List UInt8) (n : Nat) (s : Nat × Int) (h : s.1 ≤ b.length) : (rtake b n s).1.1 ≤ b.length := by
  unfold rtake
  repeat' split
  all_goals simp only []
  all_goals omega
theorem rnum_le (b : List UInt8) (n : Nat) (s : Nat × Int) (h : s.1 ≤ b.length) : (rnum b n s).1.1 ≤ b.length := rtake_le b n s h
theorem rfail_at (is : Bool) (x : Int) (s : Nat × Int) : (rfail is x s).1 = s.1 := by unfold rfail; split <;> rfl
theorem rtake_len (b : List UInt8) (n : Nat) (s : Nat × Int) : (rtake b n s).2.length ≤ n := by
  unfold rtake; repeat' split
  all_goals simp
  omega
theorem rnum_lt (b : List UInt8) (n : Nat) (s : Nat × Int) : (rnum b n s).2 < 256 ^ n :=
  Nat.lt_of_lt_of_le (Go.Proofs.Ytipniobgijdlkaa.num_lt _) (Nat.pow_le_pow_right (by decide) (rtake_len b n s))
theorem rid_le (b : List UInt8) (l m : Nat) (s : Nat × Int) (h : s.1 ≤ b.length) : (rid b l m s).1.1 ≤ b.length :=
  rtake_le b _ _ (by rw [rfail_at]; exact rnum_le b 1 s h)
theorem rvar_le (b : List UInt8) (s : Nat × Int) (h : s.1 ≤ b.length) : (rvar b s).1.1 ≤ b.length := by
  unfold rvar
  split
  · exact h
  · have := vget_many (b.drop s.1)
    rw [List.length_drop] at this
    simp only []
    omega
theorem vget_lt (l : List UInt8) : (vget l).1 < 18446744073709551616 := by
  unfold vget
  split
  · decide
  · show vnum l < _
    unfold vnum
    refine Nat.lt_of_lt_of_le (Go.Proofs.Ytipniobgijdlkaa.fold_lt _ _) ?_
    have h1 : ((l.take (vmany (nth l 0))).drop 1).length ≤ 7 := by
      have := vmany_le (nth l 0)
      rw [List.length_drop, List.length_take]; omega
    have h2 : n8 (nth l 0) % 64 + 1 ≤ 64 := by omega
    exact Nat.le_trans (Nat.mul_le_mul h2 (Nat.pow_le_pow_right (n := 256) (by decide) h1)) (by decide)
theorem rvar_lt (b : List UInt8) (s : Nat × Int) : (rvar b s).2 < 18446744073709551616 := by
  unfold rvar
  split
  · show (0 : Nat) < _
    decide
  · exact vget_lt _
end Hdr
namespace Go.Proofs.Ytipniobgijdlkaa
open Go.RowKit Go.Rw Hdr

theorem cfVget (args : Array Value) (w : World) : (callFunc 72 args).run Try.prog w = .ok (.enter 72 args) w := by simp [go_sem]
end Go.Proofs.Ytipniobgijdlkaa
end
section
/- Frames in plain words: how bytes are read. -/
namespace Frm
open Go Go.RowKit Go.Rw Hdr
def fr0 : Fr := ⟨0, 0, 0, [], 0, 0, false, [], [], []⟩
def rzero (b : List UInt8) (s : Nat × Int) : Nat × Int := rfail (decide ((rvar b s).2 ≠ 0)) 5 (rvar b s).1
/-- The ranges of an Ack, from the greatest end on. -/
def rgo (b : List UInt8) (many hi : Nat) (s : Nat × Int) (acc : List (Nat × Nat)) : (Nat × Int) × List (Nat × Nat) :=
  let s2 := rfail (decide (hi < (rvar b s).2)) 5 (rvar b s).1
  if s2.2 ≠ 0 then (s2, acc) else
    match many with
    | 0 => (s2, acc ++ [(hi - (rvar b s).2, hi)])
    | m + 1 =>
      let s4 := rfail (decide ((rvar b s2).1.2 = 0) && (decide (hi - (rvar b s).2 < 2) || decide (hi - (rvar b s).2 - 2 < (rvar b s2).2))) 5 (rvar b s2).1
      if s4.2 ≠ 0 then (s4, acc ++ [(hi - (rvar b s).2, hi)]) else rgo b m (hi - (rvar b s).2 - 2 - (rvar b s2).2) s4 (acc ++ [(hi - (rvar b s).2, hi)])
def rack (b : List UInt8) (s : Nat × Int) (f : Fr) : (Nat × Int) × Fr :=
  let h := rvar b s
  let d := rvar b h.1
  let m := rvar b d.1
  let r := rgo b m.2 h.2 (rfail (decide (8 ≤ m.2)) 5 m.1) f.rs
  (r.1, { f with d := d.2, rs := r.2 })
def rbytes (b : List UInt8) (s : Nat × Int) (f : Fr) : (Nat × Int) × Fr :=
  let o := rvar b s
  let n := rvar b o.1
  let t := rtake b n.2 (rfail (decide (16383 < n.2) || decide (4611686018427387903 - n.2 < o.2)) 5 n.1)
  (t.1, { f with o := o.2, dat := t.2 })
def rcid (b : List UInt8) (s : Nat × Int) (f : Fr) : (Nat × Int) × Fr :=
  let n := rvar b s
  let k := rtake b 1 (rzero b n.1)
  let c := rtake b 8 (rfail (decide (k.2.length = 1) && (nth k.2 0 != 8)) 5 k.1)
  let t := rtake b 16 c.1
  (t.1, { f with n := n.2, cid := c.2, tok := t.2 })
def rbody (b : List UInt8) (s : Nat × Int) (f : Fr) : (Nat × Int) × Fr :=
  if f.k = 1 ∨ f.k = 30 then (s, f)
  else if f.k = 2 then rack b s f
  else if f.k = 6 then rbytes b s f
  else if f.k = 14 ∨ f.k = 15 then rbytes b (rvar b s).1 { f with fin := (f.k == 15), k := 8, i := (rvar b s).2 }
  else if f.k = 16 ∨ f.k = 25 then ((rvar b s).1, { f with n := (rvar b s).2 })
  else if f.k = 24 then rcid b s f
  else if f.k = 26 ∨ f.k = 27 then ((rtake b 8 s).1, { f with dat := (rtake b 8 s).2 })
  else if f.k = 28 then (rzero b (rzero b (rvar b s).1), { f with n := (rvar b s).2 })
  else ((s.1, 6), f)
/-- How many zeros bytes begin with, of the first 16384. -/
def zrun (b : List UInt8) : Nat := ((b.take 16384).takeWhile (· == 0)).length
def fget (b : List UInt8) : Fr × Nat × Int :=
  if b.length = 0 then (fr0, 0, 3) else if 63 < n8 (nth b 0) then (fr0, 0, 6)
  else if nth b 0 = 0 then ({ fr0 with n := zrun b }, zrun b, 0)
  else
    let r := rbody b (1, 0) { fr0 with k := (n8 (nth b 0) : Nat) }
    if r.1.2 ≠ 0 then (fr0, 0, r.1.2) else (r.2, r.1.1, 0)
theorem rzero_le (b : List UInt8) (s : Nat × Int) (h : s.1 ≤ b.length) : (rzero b s).1 ≤ b.length := by unfold rzero; rw [rfail_at]; exact rvar_le b s h
/-- A reader as it lies, and what it reads of. -/
structure RS (b : List UInt8) (w0 : World) (vb : Value) (B : Nat) (w : World) (s : Nat × Int) : Prop where
  row : row? w B = some #[vb, .int .i64 (s.1 : Nat), .int .i64 s.2]
  at_ : s.1 ≤ b.length
  len : b.length ≤ 1000000
  sl : Sl w0 vb b
  bel : Below w0.heap.size w0 w
  low : w0.heap.size ≤ B
theorem RS.mut {b : List UInt8} {w0 : World} {vb : Value} {B : Nat} {w w' : World} {s s' : Nat × Int} (h : RS b w0 vb B w s) (m : Mut B w w') (hr : row? w' B = some #[vb, .int .i64 (s'.1 : Nat), .int .i64 s'.2]) (ha : s'.1 ≤ b.length) : RS b w0 vb B w' s' :=
  ⟨hr, ha, h.len, h.sl, h.bel.trans (m.below h.low h.bel.size), h.low⟩
/-- What else turns is far from the reader. -/
theorem RS.far {b : List UInt8} {w0 : World} {vb : Value} {B C : Nat} {w w' : World} {s : Nat × Int} (h : RS b w0 vb B w s) (m : Mut C w w') (hne : B ≠ C) (hC : w0.heap.size ≤ C) : RS b w0 vb B w' s :=
  ⟨m.row h.row hne, h.at_, h.len, h.sl, h.bel.trans (m.below hC h.bel.size), h.low⟩
/-- Ranges as cells. -/
def rcells (l : List (Nat × Nat)) : List Value := l.flatMap fun r => [.int .u64 (r.1 : Nat), .int .u64 (r.2 : Nat)]
theorem rcells_len (l : List (Nat × Nat)) : (rcells l).length = l.length * 2 := by
  induction l with
  | nil => rfl
  | cons r l ih => simp only [rcells, List.flatMap_cons, List.length_append, List.length_cons, List.length_nil] at ih ⊢; omega
theorem rcells_app (l m : List (Nat × Nat)) : rcells (l ++ m) = rcells l ++ rcells m := by simp [rcells]
theorem rcells_get (l : List (Nat × Nat)) : ∀ k, k < l.length → (rcells l)[k * 2]? = some (.int .u64 (rlo l k : Nat)) ∧ (rcells l)[k * 2 + 1]? = some (.int .u64 (rhi l k : Nat)) := by
  induction l with
  | nil => intro k hk; simp at hk
  | cons r l ih =>
    intro k hk
    cases k with
    | zero => simp [rcells, rlo, rhi]
    | succ k =>
      have h := ih k (by simpa using hk)
      have e1 : (k + 1) * 2 = k * 2 + 2 := by omega
      have e2 : rlo (r :: l) (k + 1) = rlo l k := by simp [rlo]
      have e3 : rhi (r :: l) (k + 1) = rhi l k := by simp [rhi]
      rw [e1, e2, e3]
      simpa [rcells] using h
theorem Own.sr {w : World} {B : Nat} {e : TypeId} {v : Value} {l : List (Nat × Nat)} (h : w.ownsRow B e 2 v l.length (rcells l)) : Sr w v l := by
  have h2 := h.2
  rcases h2 with ⟨rfl, h0⟩ | ⟨g, cap, cur, rfl, hb, hg, hnc, hcm, hcs, htake⟩
  · obtain rfl : l = [] := List.eq_nil_of_length_eq_zero h0
    exact Sr.nil w
  · have hat : ∀ j, j < l.length * 2 → w.cell? ⟨g, j, none⟩ = (rcells l)[j]? := fun j hj => by
      rw [cell_of_row w g j cur e (0, 0) hg, ← htake, List.getElem?_take, if_pos (by simpa using hj), Array.getElem?_toList]
    refine ⟨_, cap, rfl, hnc, fun h => (by cases h), fun _ => ⟨g, 0, rfl, fun k hk => ?_⟩⟩
    have := rcells_get l k hk
    rw [Nat.zero_add]
    exact ⟨by rw [hat _ (by omega)]; exact this.1, by rw [hat _ (by omega)]; exact this.2⟩
/-- A frame as it lies in a block, its slices in blocks of the call's own. -/
structure FA (N : Nat) (tr tb : TypeId) (Bf : Nat) (w : World) (vr vd vc vt : Value) (f : Fr) : Prop where
  row : row? w Bf = some (fvA f.k f.n f.d vr f.i f.o f.fin vd vc vt)
  rs : w.ownsRow N tr 2 vr f.rs.length (rcells f.rs)
  dat : w.ownsRow N tb 1 vd f.dat.length (f.dat.map bv)
  cid : w.ownsRow N tb 1 vc f.cid.length (f.cid.map bv)
  tok : w.ownsRow N tb 1 vt f.tok.length (f.tok.map bv)
theorem Mut.ownS {B N n sz : Nat} {e : TypeId} {v : Value} {xs : List Value} {w w' : World} (h : Mut B w w') (ho : w.ownsRow N e sz v n xs) (hN : B < N) : w'.ownsRow N e sz v n xs := by
  have hg : w.grownBy w' (some B) := ⟨h.os, h.tape, h.output, h.size, fun k hk hne => h.block k hk (fun e => hne (by rw [e]))⟩
  cases hv : v.ownBlock with
  | none => exact ho.kept hg (.inl hv)
  | some k => exact ho.kept hg (.inr (by rw [hv]; intro e; injection e with e; have := (ho.lt k hv).1; omega))
theorem FA.mut {N : Nat} {tr tb : TypeId} {B Bf : Nat} {w w' : World} {vr vd vc vt : Value} {f : Fr} (h : FA N tr tb Bf w vr vd vc vt f) (m : Mut B w w') (hne : Bf ≠ B) (hN : B < N) : FA N tr tb Bf w' vr vd vc vt f :=
  ⟨m.row h.row hne, Mut.ownS m h.rs hN, Mut.ownS m h.dat hN, Mut.ownS m h.cid hN, Mut.ownS m h.tok hN⟩
theorem FA.set {N : Nat} {tr tb : TypeId} {Bf : Nat} {w : World} {vr vd vc vt : Value} {f : Fr} (h : FA N tr tb Bf w vr vd vc vt f) (hN : Bf < N) (j : Nat) (x : Value) {f' : Fr} {vr' vd' vc' vt' : Value}
    (e : (fvA f.k f.n f.d vr f.i f.o f.fin vd vc vt).setIfInBounds j x = fvA f'.k f'.n f'.d vr' f'.i f'.o f'.fin vd' vc' vt')
    (hr : w.ownsRow N tr 2 vr' f'.rs.length (rcells f'.rs)) (hd : w.ownsRow N tb 1 vd' f'.dat.length (f'.dat.map bv)) (hc : w.ownsRow N tb 1 vc' f'.cid.length (f'.cid.map bv)) (ht : w.ownsRow N tb 1 vt' f'.tok.length (f'.tok.map bv)) :
    FA N tr tb Bf (w.setCell ⟨Bf, j, none⟩ x) vr' vd' vc' vt' f' := by
  have m : Mut Bf w (w.setCell ⟨Bf, j, none⟩ x) := (Mut.refl _ _).setCell _ _ _
  exact ⟨by rw [row?_setCell_eq h.row, e], Mut.ownS m hr hN, Mut.ownS m hd hN, Mut.ownS m hc hN, Mut.ownS m ht hN⟩
end Frm
end
