/- HdrW7; HdrW8; FrmG; FrmU. -/
import Derived.Test.YtipniobgijdlkaaMgs6
import Derived.Test.YtipniobgijdlkaaMgs5
import Derived.RegionTactic
import Derived.BigRegion
import Derived.Test.YtipniobgijdlkaaMgsLibX
import Derived.Test.YtipniobgijdlkaaMgs10
section
/- The walks of a number that tells its own length, and of package header's reader with it: a name, a number. -/
namespace Go.Proofs.Ytipniobgijdlkaa
open Go.RowKit Go.Rw Hdr
attribute [local go_sem ↓] shift_shl8 shift_shr8 shift_shl64 shift_shr64
theorem shl1_0 : Op.shift .shl .i64 1 .u8 ((0 : Nat) : Int) = pure (.int .i64 1) := by kernel_rfl
theorem shl1_1 : Op.shift .shl .i64 1 .u8 ((1 : Nat) : Int) = pure (.int .i64 2) := by kernel_rfl
theorem shl1_2 : Op.shift .shl .i64 1 .u8 ((2 : Nat) : Int) = pure (.int .i64 4) := by kernel_rfl
theorem shl1_3 : Op.shift .shl .i64 1 .u8 ((3 : Nat) : Int) = pure (.int .i64 8) := by kernel_rfl
theorem shl1_many (c : UInt8) : Op.shift .shl .i64 1 .u8 (n8 (shr8 c 6) : Nat) = pure (.int .i64 (vmany c : Nat)) := by
  have h : n8 (shr8 c 6) = n8 c / 64 := n8_shr8 c 6
  have hc := n8_lt c
  have h3 : n8 c / 64 < 4 := by omega
  unfold vmany
  rw [h]
  generalize n8 c / 64 = k at h3
  match k, h3 with
  | 0, _ => exact shl1_0
  | 1, _ => exact shl1_1
  | 2, _ => exact shl1_2
  | 3, _ => exact shl1_3
theorem and63 (c : UInt8) : n8 (c &&& 63) = n8 c % 64 := by
  unfold n8
  rw [UInt8.toNat_and]
  exact Nat.and_two_pow_sub_one_eq_mod (n := 6) c.toNat
attribute [local go_sem ↓] shl1_many
/-- The number of the first bytes, from a beginning on. -/
def foldN (x : Nat) (l : List UInt8) : Nat := l.foldl (fun n c => n * 256 + n8 c) x
theorem foldN_succ (x : Nat) (l : List UInt8) (k : Nat) (h : k < l.length) : foldN x (l.take (k + 1)) = foldN x (l.take k) * 256 + n8 (nth l k) := by
  unfold foldN nth
  rw [List.take_add_one, List.foldl_append, List.getElem?_eq_getElem h]
  rfl
theorem foldN_lt {x k : Nat} (l : List UInt8) (hx : x < 64) (hk : (l.take k).length ≤ 6) : foldN x (l.take k) < 72057594037927936 := by
  refine Nat.lt_of_lt_of_le (fold_lt (l.take k) x) ?_
  exact Nat.le_trans (Nat.mul_le_mul (show x + 1 ≤ 64 by omega) (Nat.pow_le_pow_right (n := 256) (by decide) hk)) (by decide)

set_option maxRecDepth 20000 in
set_option maxHeartbeats 1000000 in
theorem vget_any (l : List UInt8) (hl : l.length ≤ 1000000) (v : Value) (w : World) (hs : Sl w v l) :
    Calls Try.prog 72 #[v] w fun e w' => e = .returned (.tuple #[.int .u64 ((vget l).1 : Nat), .int .i64 ((vget l).2.1 : Nat), .int .i64 (vget l).2.2]) ∧ w = w' := by
  have hs0 := hs
  obtain ⟨ao, cap, rfl, hc, hnn, hp⟩ := hs0
  clear hnn
  by_cases h0 : l.length = 0
  · have e : vget l = (0, 0, 3) := by unfold vget; rw [if_pos (.inl h0)]
    rw [e]
    go_enter Try.func72, Try.ntmps72
    go_wp2_with fail
    go_ret3
    exact ⟨rfl, rfl⟩
  obtain ⟨b, off, rfl, hcell⟩ := hp (by omega)
  clear hp
  have c0 : w.cell? ⟨b, off, none⟩ = some (.int .u8 (n8 (nth l 0) : Nat)) := by have := hcell 0 (by omega); simpa using this
  have hmp := vmany_pos (nth l 0)
  have hm8 := vmany_le (nth l 0)
  by_cases hsh : l.length < vmany (nth l 0)
  · have e : vget l = (0, 0, 3) := by unfold vget; rw [if_pos (.inr hsh)]
    rw [e]
    clear hcell hs
    go_enter Try.func72, Try.ntmps72
    go_wp2_with fail
    go_ret3
    exact ⟨rfl, rfl⟩
  have e : vget l = (vnum l, vmany (nth l 0), 0) := by unfold vget; rw [if_neg (by omega)]
  rw [e]
  unfold vnum
  have hsc := hs.cut 1 (vmany (nth l 0)) hmp (by omega)
  have hTl : ((l.take (vmany (nth l 0))).drop 1).length = vmany (nth l 0) - 1 := by simp; omega
  generalize (l.take (vmany (nth l 0))).drop 1 = T at hsc hTl ⊢
  obtain ⟨c, hcdef⟩ : ∃ c, c = nth l 0 := ⟨_, rfl⟩
  rw [← hcdef] at c0 hmp hm8 hsh e hsc hTl ⊢
  have hx := and63 c
  have hx64 : n8 (c &&& 63) < 64 := by omega
  rw [← hx]
  show Calls _ _ _ _ fun e w' => e = .returned (.tuple #[.int .u64 ((foldN (n8 (c &&& 63)) T : Nat) : Int), _, _]) ∧ _
  generalize hmany : vmany c = m at *
  have hcut : ∀ W, (Instr.sliceAt 25 (.slice (some ⟨b, off, none⟩) l.length cap) (some (.int .i64 1)) (some (.int .i64 (m : Nat))) none).run Try.prog W = .ok (.slice (cutA (some ⟨b, off, none⟩) 1 cap) (m - 1) (cap - 1)) W := fun W => by
    rw [cut_lh TB W _ _ _ _ _ _ _ (by decide) (by omega) (by omega), Int.toNat_natCast]; rfl
  obtain ⟨ao2, cap2, hv2, hc2, hnn2, hp2⟩ := hsc
  injection hv2 with hv2a hv2b hv2c
  clear hs hcell e hnn2 hcdef
  have HX := Lib.hid hx64
  have HTL := Lib.hid hTl
  clear hx hx64 hTl
  go_enter Try.func72, Try.ntmps72
  go_wp2_with fail
  go_loopw [6, 8, 36] (fun va vc v wr => ∃ k : Nat, k ≤ T.length ∧ va = .int .u64 (foldN (n8 (c &&& 63)) (T.take k) : Nat) ∧ v = .int .i64 k ∧ w = wr) (fun _ _ v _ => T.length - (intOf v).toNat)
  case atStart => exact ⟨0, by omega, by rw [n64_wide]; rfl, rfl, rfl⟩
  case round =>
    obtain ⟨k, hk, rfl, rfl, rfl⟩ := hrel
    by_cases hlt2 : k < T.length
    · obtain ⟨b1, off1, rfl, hcell1⟩ := hp2 (by omega)
      have c1 := hcell1 k hlt2
      have hxk := foldN_lt (x := n8 (c &&& 63)) (k := k) T HX.out (by have := HTL.out; rw [List.length_take]; omega)
      have hst := num_step (foldN (n8 (c &&& 63)) (T.take k)) (nth T k) hxk
      rw [← foldN_succ _ T k hlt2] at hst
      obtain ⟨X, hX⟩ : ∃ X : UInt64, X = UInt64.ofNat (foldN (n8 (c &&& 63)) (T.take k)) := ⟨_, rfl⟩
      have hq : foldN (n8 (c &&& 63)) (T.take k) = n64 X := by rw [hX]; exact (n64_ofNat _ (by omega)).symm
      rw [← hX] at hst
      rw [hq]
      have HS := Lib.hid hst
      clear hq hX hxk hst hcell1
      go_wp2_with fail
      go_roundw
      case rel => exact ⟨k + 1, by omega, by rw [← HS.out], by go_num, by first | rfl | trivial⟩
      case measure => simp [intOf]; omega
    · obtain rfl : k = T.length := by omega
      rw [List.take_length]
      go_wp2_with fail
      go_ret3
      exact ⟨rfl, rfl⟩
end Go.Proofs.Ytipniobgijdlkaa
end
section
/- The walks of package header's reader: a name; a number that tells its own length. -/
namespace Hdr
open Go.Rw
theorem rtake_le (b : List UInt8) (n : Nat) (s : Nat × Int) (h : s.1 ≤ b.length) : (rtake b n s).1.1 ≤ b.length := by
  unfold rtake
  repeat' split
  all_goals simp only []
  all_goals omega
theorem rnum_le (b : List UInt8) (n : Nat) (s : Nat × Int) (h : s.1 ≤ b.length) : (rnum b n s).1.1 ≤ b.length := rtake_le b n s h
theorem rfail_at (is : Bool) (x : Int) (s : Nat × Int) : (rfail is x s).1 = s.1 := by unfold rfail; split <;> rfl
theorem rtake_len (b : List UInt8) (n : Nat) (s : Nat × Int) : (rtake b n s).2.length ≤ n := by
  unfold rtake; repeat' split
  all_goals simp
  omega
theorem rnum_lt (b : List UInt8) (n : Nat) (s : Nat × Int) : (rnum b n s).2 < 256 ^ n :=
  Nat.lt_of_lt_of_le (Go.Proofs.Ytipniobgijdlkaa.num_lt _) (Nat.pow_le_pow_right (by decide) (rtake_len b n s))
theorem rid_le (b : List UInt8) (l m : Nat) (s : Nat × Int) (h : s.1 ≤ b.length) : (rid b l m s).1.1 ≤ b.length :=
  rtake_le b _ _ (by rw [rfail_at]; exact rnum_le b 1 s h)
theorem rvar_le (b : List UInt8) (s : Nat × Int) (h : s.1 ≤ b.length) : (rvar b s).1.1 ≤ b.length := by
  unfold rvar
  split
  · exact h
  · have := vget_many (b.drop s.1)
    rw [List.length_drop] at this
    simp only []
    omega
theorem vget_lt (l : List UInt8) : (vget l).1 < 18446744073709551616 := by
  unfold vget
  split
  · decide
  · show vnum l < _
    unfold vnum
    refine Nat.lt_of_lt_of_le (Go.Proofs.Ytipniobgijdlkaa.fold_lt _ _) ?_
    have h1 : ((l.take (vmany (nth l 0))).drop 1).length ≤ 7 := by
      have := vmany_le (nth l 0)
      rw [List.length_drop, List.length_take]; omega
    have h2 : n8 (nth l 0) % 64 + 1 ≤ 64 := by omega
    exact Nat.le_trans (Nat.mul_le_mul h2 (Nat.pow_le_pow_right (n := 256) (by decide) h1)) (by decide)
theorem rvar_lt (b : List UInt8) (s : Nat × Int) : (rvar b s).2 < 18446744073709551616 := by
  unfold rvar
  split
  · show (0 : Nat) < _
    decide
  · exact vget_lt _
end Hdr
namespace Go.Proofs.Ytipniobgijdlkaa
open Go.RowKit Go.Rw Hdr

theorem cfVget (args : Array Value) (w : World) : (callFunc 72 args).run Try.prog w = .ok (.enter 72 args) w := by simp [go_sem]
end Go.Proofs.Ytipniobgijdlkaa
end
section
/- Frames in plain words: how bytes are read. -/
namespace Frm
open Go Go.RowKit Go.Rw Hdr
def fr0 : Fr := ⟨0, 0, 0, [], 0, 0, false, [], [], []⟩
def rzero (b : List UInt8) (s : Nat × Int) : Nat × Int := rfail (decide ((rvar b s).2 ≠ 0)) 5 (rvar b s).1
/-- The ranges of an Ack, from the greatest end on. -/
def rgo (b : List UInt8) (many hi : Nat) (s : Nat × Int) (acc : List (Nat × Nat)) : (Nat × Int) × List (Nat × Nat) :=
  let s2 := rfail (decide (hi < (rvar b s).2)) 5 (rvar b s).1
  if s2.2 ≠ 0 then (s2, acc) else
    match many with
    | 0 => (s2, acc ++ [(hi - (rvar b s).2, hi)])
    | m + 1 =>
      let s4 := rfail (decide ((rvar b s2).1.2 = 0) && (decide (hi - (rvar b s).2 < 2) || decide (hi - (rvar b s).2 - 2 < (rvar b s2).2))) 5 (rvar b s2).1
      if s4.2 ≠ 0 then (s4, acc ++ [(hi - (rvar b s).2, hi)]) else rgo b m (hi - (rvar b s).2 - 2 - (rvar b s2).2) s4 (acc ++ [(hi - (rvar b s).2, hi)])
def rack (b : List UInt8) (s : Nat × Int) (f : Fr) : (Nat × Int) × Fr :=
  let h := rvar b s
  let d := rvar b h.1
  let m := rvar b d.1
  let r := rgo b m.2 h.2 (rfail (decide (8 ≤ m.2)) 5 m.1) f.rs
  (r.1, { f with d := d.2, rs := r.2 })
def rbytes (b : List UInt8) (s : Nat × Int) (f : Fr) : (Nat × Int) × Fr :=
  let o := rvar b s
  let n := rvar b o.1
  let t := rtake b n.2 (rfail (decide (16383 < n.2) || decide (4611686018427387903 - n.2 < o.2)) 5 n.1)
  (t.1, { f with o := o.2, dat := t.2 })
def rcid (b : List UInt8) (s : Nat × Int) (f : Fr) : (Nat × Int) × Fr :=
  let n := rvar b s
  let k := rtake b 1 (rzero b n.1)
  let c := rtake b 8 (rfail (decide (k.2.length = 1) && (nth k.2 0 != 8)) 5 k.1)
  let t := rtake b 16 c.1
  (t.1, { f with n := n.2, cid := c.2, tok := t.2 })
def rbody (b : List UInt8) (s : Nat × Int) (f : Fr) : (Nat × Int) × Fr :=
  if f.k = 1 ∨ f.k = 30 then (s, f)
  else if f.k = 2 then rack b s f
  else if f.k = 6 then rbytes b s f
  else if f.k = 14 ∨ f.k = 15 then rbytes b (rvar b s).1 { f with fin := (f.k == 15), k := 8, i := (rvar b s).2 }
  else if f.k = 16 ∨ f.k = 25 then ((rvar b s).1, { f with n := (rvar b s).2 })
  else if f.k = 24 then rcid b s f
  else if f.k = 26 ∨ f.k = 27 then ((rtake b 8 s).1, { f with dat := (rtake b 8 s).2 })
  else if f.k = 28 then (rzero b (rzero b (rvar b s).1), { f with n := (rvar b s).2 })
  else ((s.1, 6), f)
/-- How many zeros bytes begin with, of the first 16384. -/
def zrun (b : List UInt8) : Nat := ((b.take 16384).takeWhile (· == 0)).length
def fget (b : List UInt8) : Fr × Nat × Int :=
  if b.length = 0 then (fr0, 0, 3) else if 63 < n8 (nth b 0) then (fr0, 0, 6)
  else if nth b 0 = 0 then ({ fr0 with n := zrun b }, zrun b, 0)
  else
    let r := rbody b (1, 0) { fr0 with k := (n8 (nth b 0) : Nat) }
    if r.1.2 ≠ 0 then (fr0, 0, r.1.2) else (r.2, r.1.1, 0)
theorem rzero_le (b : List UInt8) (s : Nat × Int) (h : s.1 ≤ b.length) : (rzero b s).1 ≤ b.length := by unfold rzero; rw [rfail_at]; exact rvar_le b s h
/-- A reader as it lies, and what it reads of. -/
structure RS (b : List UInt8) (w0 : World) (vb : Value) (B : Nat) (w : World) (s : Nat × Int) : Prop where
  row : row? w B = some #[vb, .int .i64 (s.1 : Nat), .int .i64 s.2]
  at_ : s.1 ≤ b.length
  len : b.length ≤ 1000000
  sl : Sl w0 vb b
  bel : Below w0.heap.size w0 w
  low : w0.heap.size ≤ B
theorem RS.mut {b : List UInt8} {w0 : World} {vb : Value} {B : Nat} {w w' : World} {s s' : Nat × Int} (h : RS b w0 vb B w s) (m : Mut B w w') (hr : row? w' B = some #[vb, .int .i64 (s'.1 : Nat), .int .i64 s'.2]) (ha : s'.1 ≤ b.length) : RS b w0 vb B w' s' :=
  ⟨hr, ha, h.len, h.sl, h.bel.trans (m.below h.low h.bel.size), h.low⟩
/-- What else turns is far from the reader. -/
theorem RS.far {b : List UInt8} {w0 : World} {vb : Value} {B C : Nat} {w w' : World} {s : Nat × Int} (h : RS b w0 vb B w s) (m : Mut C w w') (hne : B ≠ C) (hC : w0.heap.size ≤ C) : RS b w0 vb B w' s :=
  ⟨m.row h.row hne, h.at_, h.len, h.sl, h.bel.trans (m.below hC h.bel.size), h.low⟩
/-- Ranges as cells. -/
def rcells (l : List (Nat × Nat)) : List Value := l.flatMap fun r => [.int .u64 (r.1 : Nat), .int .u64 (r.2 : Nat)]
theorem rcells_len (l : List (Nat × Nat)) : (rcells l).length = l.length * 2 := by
  induction l with
  | nil => rfl
  | cons r l ih => simp only [rcells, List.flatMap_cons, List.length_append, List.length_cons, List.length_nil] at ih ⊢; omega
theorem rcells_app (l m : List (Nat × Nat)) : rcells (l ++ m) = rcells l ++ rcells m := by simp [rcells]
theorem rcells_get (l : List (Nat × Nat)) : ∀ k, k < l.length → (rcells l)[k * 2]? = some (.int .u64 (rlo l k : Nat)) ∧ (rcells l)[k * 2 + 1]? = some (.int .u64 (rhi l k : Nat)) := by
  induction l with
  | nil => intro k hk; simp at hk
  | cons r l ih =>
    intro k hk
    cases k with
    | zero => simp [rcells, rlo, rhi]
    | succ k =>
      have h := ih k (by simpa using hk)
      have e1 : (k + 1) * 2 = k * 2 + 2 := by omega
      have e2 : rlo (r :: l) (k + 1) = rlo l k := by simp [rlo]
      have e3 : rhi (r :: l) (k + 1) = rhi l k := by simp [rhi]
      rw [e1, e2, e3]
      simpa [rcells] using h
theorem Own.sr {w : World} {B : Nat} {e : TypeId} {v : Value} {l : List (Nat × Nat)} (h : w.ownsRow B e 2 v l.length (rcells l)) : Sr w v l := by
  have h2 := h.2
  rcases h2 with ⟨rfl, h0⟩ | ⟨g, cap, cur, rfl, hb, hg, hnc, hcm, hcs, htake⟩
  · obtain rfl : l = [] := List.eq_nil_of_length_eq_zero h0
    exact Sr.nil w
  · have hat : ∀ j, j < l.length * 2 → w.cell? ⟨g, j, none⟩ = (rcells l)[j]? := fun j hj => by
      rw [cell_of_row w g j cur e (0, 0) hg, ← htake, List.getElem?_take, if_pos (by simpa using hj), Array.getElem?_toList]
    refine ⟨_, cap, rfl, hnc, fun h => (by cases h), fun _ => ⟨g, 0, rfl, fun k hk => ?_⟩⟩
    have := rcells_get l k hk
    rw [Nat.zero_add]
    exact ⟨by rw [hat _ (by omega)]; exact this.1, by rw [hat _ (by omega)]; exact this.2⟩
/-- A frame as it lies in a block, its slices in blocks of the call's own. -/
structure FA (N : Nat) (tr tb : TypeId) (Bf : Nat) (w : World) (vr vd vc vt : Value) (f : Fr) : Prop where
  row : row? w Bf = some (fvA f.k f.n f.d vr f.i f.o f.fin vd vc vt)
  rs : w.ownsRow N tr 2 vr f.rs.length (rcells f.rs)
  dat : w.ownsRow N tb 1 vd f.dat.length (f.dat.map bv)
  cid : w.ownsRow N tb 1 vc f.cid.length (f.cid.map bv)
  tok : w.ownsRow N tb 1 vt f.tok.length (f.tok.map bv)
theorem Mut.ownS {B N n sz : Nat} {e : TypeId} {v : Value} {xs : List Value} {w w' : World} (h : Mut B w w') (ho : w.ownsRow N e sz v n xs) (hN : B < N) : w'.ownsRow N e sz v n xs := by
  have hg : w.grownBy w' (some B) := ⟨h.os, h.tape, h.output, h.size, fun k hk hne => h.block k hk (fun e => hne (by rw [e]))⟩
  cases hv : v.ownBlock with
  | none => exact ho.kept hg (.inl hv)
  | some k => exact ho.kept hg (.inr (by rw [hv]; intro e; injection e with e; have := (ho.lt k hv).1; omega))
theorem FA.mut {N : Nat} {tr tb : TypeId} {B Bf : Nat} {w w' : World} {vr vd vc vt : Value} {f : Fr} (h : FA N tr tb Bf w vr vd vc vt f) (m : Mut B w w') (hne : Bf ≠ B) (hN : B < N) : FA N tr tb Bf w' vr vd vc vt f :=
  ⟨m.row h.row hne, Mut.ownS m h.rs hN, Mut.ownS m h.dat hN, Mut.ownS m h.cid hN, Mut.ownS m h.tok hN⟩
theorem FA.set {N : Nat} {tr tb : TypeId} {Bf : Nat} {w : World} {vr vd vc vt : Value} {f : Fr} (h : FA N tr tb Bf w vr vd vc vt f) (hN : Bf < N) (j : Nat) (x : Value) {f' : Fr} {vr' vd' vc' vt' : Value}
    (e : (fvA f.k f.n f.d vr f.i f.o f.fin vd vc vt).setIfInBounds j x = fvA f'.k f'.n f'.d vr' f'.i f'.o f'.fin vd' vc' vt')
    (hr : w.ownsRow N tr 2 vr' f'.rs.length (rcells f'.rs)) (hd : w.ownsRow N tb 1 vd' f'.dat.length (f'.dat.map bv)) (hc : w.ownsRow N tb 1 vc' f'.cid.length (f'.cid.map bv)) (ht : w.ownsRow N tb 1 vt' f'.tok.length (f'.tok.map bv)) :
    FA N tr tb Bf (w.setCell ⟨Bf, j, none⟩ x) vr' vd' vc' vt' f' := by
  have m : Mut Bf w (w.setCell ⟨Bf, j, none⟩ x) := (Mut.refl _ _).setCell _ _ _
  exact ⟨by rw [row?_setCell_eq h.row, e], Mut.ownS m hr hN, Mut.ownS m hd hN, Mut.ownS m hc hN, Mut.ownS m ht hN⟩
end Frm
end
section
/- What is laid is read as it was, in plain words: a frame's bytes, with any behind them, tell that frame. No program. -/
namespace Frm
open Go Go.Rw Hdr
theorem n8_mod (x : Nat) : n8 (UInt8.ofNat x) = x % 256 := by simp [n8]
theorem drop_app {b x y : List UInt8} {at_ n : Nat} (h : b.drop at_ = x ++ y) (hx : x.length = n) : b.drop (at_ + n) = y := by
  rw [← List.drop_drop, h, List.drop_left' hx]
theorem app_le {b x y : List UInt8} {at_ n : Nat} (h : b.drop at_ = x ++ y) (hx : x.length = n) : n ≤ b.length - at_ := by
  have := congrArg List.length h
  rw [List.length_drop, List.length_append, hx] at this
  omega
theorem rtake_app {b x y : List UInt8} {at_ n : Nat} (h : b.drop at_ = x ++ y) (hx : x.length = n) : rtake b n (at_, 0) = ((at_ + n, 0), x) := by
  rw [rtake_ok (app_le h hx), h, List.take_left' hx]
theorem rvar_app {b x y : List UInt8} {at_ n k : Nat} (h : b.drop at_ = x ++ y) (hv : vget (x ++ y) = (n, k, 0)) : rvar b (at_, 0) = ((at_ + k, 0), n) := by
  rw [rvar_ok (by rw [h, hv]), h, hv]
theorem or64 : ∀ k : Fin 64, n8 (UInt8.ofNat k.1 ||| 64) = k.1 + 64 := by decide
theorem or128 : ∀ k : Fin 64, n8 (UInt8.ofNat k.1 ||| 128) = k.1 + 128 := by decide
theorem or192 : ∀ k : Fin 64, n8 (UInt8.ofNat k.1 ||| 192) = k.1 + 192 := by decide
theorem vget_cons {c : UInt8} {t y : List UInt8} {n m : Nat} (hm : n8 c / 64 = m) (hl : t.length + 1 = 2 ^ m) (hf : t.foldl (fun n c => n * 256 + n8 c) (n8 c % 64) = n) : vget ((c :: t) ++ y) = (n, 2 ^ m, 0) := by
  unfold vget vnum vmany
  rw [show nth ((c :: t) ++ y) 0 = c from rfl, hm, if_neg (by simp; omega), List.take_left' (by simp [hl])]
  rw [List.drop_succ_cons, List.drop_zero, hf]
theorem vget_vin1 {n : Nat} (h : n < 64) (y : List UInt8) : vget (vin n 1 ++ y) = (n, 1, 0) := by
  have e : n8 (UInt8.ofNat n) = n := by rw [n8_mod]; omega
  have v : vin n 1 = UInt8.ofNat n :: [] := by
    have : vmk 1 = 0 := by decide
    simp [vin, this, List.range, List.range.loop]
  rw [v]
  exact vget_cons (m := 0) (by rw [e]; omega) rfl (by simp [e]; omega)
theorem vget_vin2 {n : Nat} (h : n < 16384) (y : List UInt8) : vget (vin n 2 ++ y) = (n, 2, 0) := by
  have e : n8 (UInt8.ofNat (n / 256) ||| 64) = n / 256 + 64 := or64 ⟨n / 256, by omega⟩
  have v : vin n 2 = (UInt8.ofNat (n / 256) ||| 64) :: [UInt8.ofNat n] := by
    have : vmk 2 = 64 := by decide
    simp [vin, this, List.range, List.range.loop]
  rw [v]
  exact vget_cons (m := 1) (by rw [e]; omega) rfl (by simp only [List.foldl_cons, List.foldl_nil, e, n8_mod]; omega)
theorem vget_vin4 {n : Nat} (h : n < 1073741824) (y : List UInt8) : vget (vin n 4 ++ y) = (n, 4, 0) := by
  have e : n8 (UInt8.ofNat (n / 16777216) ||| 128) = n / 16777216 + 128 := or128 ⟨n / 16777216, by omega⟩
  have v : vin n 4 = (UInt8.ofNat (n / 16777216) ||| 128) :: [UInt8.ofNat (n / 65536), UInt8.ofNat (n / 256), UInt8.ofNat n] := by
    have : vmk 4 = 128 := by decide
    simp [vin, this, List.range, List.range.loop]
  rw [v]
  exact vget_cons (m := 2) (by rw [e]; omega) rfl (by simp only [List.foldl_cons, List.foldl_nil, e, n8_mod]; omega)
theorem vget_vin8 {n : Nat} (h : n < 4611686018427387904) (y : List UInt8) : vget (vin n 8 ++ y) = (n, 8, 0) := by
  have e : n8 (UInt8.ofNat (n / 72057594037927936) ||| 192) = n / 72057594037927936 + 192 := or192 ⟨n / 72057594037927936, by omega⟩
  have v : vin n 8 = (UInt8.ofNat (n / 72057594037927936) ||| 192) :: [UInt8.ofNat (n / 281474976710656), UInt8.ofNat (n / 1099511627776), UInt8.ofNat (n / 4294967296), UInt8.ofNat (n / 16777216), UInt8.ofNat (n / 65536), UInt8.ofNat (n / 256), UInt8.ofNat n] := by
    have : vmk 8 = 192 := by decide
    simp [vin, this, List.range, List.range.loop]
  rw [v]
  exact vget_cons (m := 3) (by rw [e]; omega) rfl (by simp only [List.foldl_cons, List.foldl_nil, e, n8_mod]; omega)
theorem vget_vP {n : Nat} (h : n ≤ 4611686018427387903) (y : List UInt8) : vget (vP n ++ y) = (n, vlen n, 0) := by
  unfold vP vlen
  split
  · exact vget_vin1 (by assumption) y
  · split
    · exact vget_vin2 (by assumption) y
    · split
      · exact vget_vin4 (by assumption) y
      · rw [if_pos (by omega)]; exact vget_vin8 (by omega) y
theorem rvP {b y : List UInt8} {at_ n : Nat} (hn : n ≤ 4611686018427387903) (h : b.drop at_ = vP n ++ y) : rvar b (at_, 0) = ((at_ + (vP n).length, 0), n) ∧ b.drop (at_ + (vP n).length) = y :=
  ⟨by rw [vP_length]; exact rvar_app h (vget_vP hn y), drop_app h rfl⟩
theorem rtP {b x y : List UInt8} {at_ n : Nat} (hn : x.length = n) (h : b.drop at_ = x ++ y) : rtake b n (at_, 0) = ((at_ + x.length, 0), x) ∧ b.drop (at_ + x.length) = y := by
  subst hn; exact ⟨rtake_app h rfl, drop_app h rfl⟩
theorem vP_0 : vP 0 = [0] := by decide
theorem rzP {b y : List UInt8} {at_ : Nat} (h : b.drop at_ = [0] ++ y) : rzero b (at_, 0) = (at_ + 1, 0) ∧ b.drop (at_ + 1) = y := by
  rw [← vP_0] at h
  have := rvP (n := 0) (by omega) h
  unfold rzero
  rw [this.1, vP_0]
  exact ⟨by simp [rfail], by have := this.2; rwa [vP_0] at this⟩
/-- The ranges' tail. -/
theorem ackR_cons (r : Nat × Nat) (l : List (Nat × Nat)) : ∀ k, ackR (r :: l) (k + 1) = ackG (r :: l) 0 ++ ackR l k := by
  intro k
  unfold ackR
  rw [List.range_succ_eq_map, List.flatMap_cons, List.flatMap_map]
  congr 1
theorem rsAll_cons {r : Nat × Nat} {l : List (Nat × Nat)} (h : rsAll (r :: l) (l.length + 1) = true) : r.1 ≤ r.2 ∧ r.2 ≤ 4611686018427387903 ∧ (∀ q m, l = q :: m → 2 ≤ r.1 ∧ q.2 ≤ r.1 - 2) ∧ rsAll l l.length = true := by
  unfold rsAll at h
  rw [List.all_eq_true] at h
  have h0 := h 0 (by simp)
  simp only [rOk, List.getD_cons_zero, Bool.and_eq_true, decide_eq_true_eq] at h0
  refine ⟨h0.1.1, h0.1.2, ?_, ?_⟩
  · rintro q m rfl
    have h1 := h 1 (by simp)
    simp [rOk] at h1
    omega
  · unfold rsAll
    rw [List.all_eq_true]
    intro i hi
    have h1 := h (i + 1) (by simp at hi ⊢; omega)
    simp only [rOk, List.getD_cons_succ, Bool.and_eq_true, decide_eq_true_eq, Bool.or_eq_true] at h1 ⊢
    refine ⟨h1.1, ?_⟩
    cases i with
    | zero => exact .inl rfl
    | succ i => exact .inr (by simpa using h1.2)
theorem rgo_app {b : List UInt8} : ∀ (l : List (Nat × Nat)) (r : Nat × Nat) (at_ : Nat) (acc : List (Nat × Nat)) (y : List UInt8), rsAll (r :: l) (l.length + 1) = true →
    b.drop at_ = vP (r.2 - r.1) ++ (ackR (r :: l) l.length ++ y) → rgo b l.length r.2 (at_, 0) acc = ((at_ + (vP (r.2 - r.1)).length + (ackR (r :: l) l.length).length, 0), acc ++ r :: l) := by
  intro l
  induction l with
  | nil =>
    intro r at_ acc y ho h
    obtain ⟨h1, h2, -, -⟩ := rsAll_cons ho
    have hv := rvP (by omega) h
    unfold rgo
    simp only [hv.1]
    rw [decide_eq_false (by omega), rfail_ok, if_neg (by simp)]
    rw [show r.2 - (r.2 - r.1) = r.1 by omega]
    simp [ackR]
  | cons q l ih =>
    intro r at_ acc y ho h
    obtain ⟨h1, h2, h3, h4⟩ := rsAll_cons ho
    obtain ⟨h5, h6⟩ := h3 q l rfl
    have hv := rvP (by omega) h
    have e : ackR (r :: q :: l) (l.length + 1) = vP (r.1 - q.2 - 2) ++ (vP (q.2 - q.1) ++ ackR (q :: l) l.length) := by
      rw [ackR_cons]; simp [ackG, rlo, rhi]
    have hd := hv.2
    rw [List.length_cons, e, List.append_assoc, List.append_assoc] at hd
    obtain ⟨k1, k2, -, -⟩ := rsAll_cons h4
    have hg := rvP (by omega) hd
    have hi := ih q (at_ + (vP (r.2 - r.1)).length + (vP (r.1 - q.2 - 2)).length) (acc ++ [r]) y h4 hg.2
    rw [List.length_cons]
    unfold rgo
    simp only [hv.1]
    rw [decide_eq_false (by omega), rfail_ok, if_neg (by simp)]
    simp only [hg.1]
    rw [show r.2 - (r.2 - r.1) = r.1 by omega, decide_eq_false (show ¬ r.1 < 2 by omega), decide_eq_false (show ¬ (r.1 - 2 < r.1 - q.2 - 2) by omega)]
    simp only [Bool.or_false, Bool.and_false, rfail_ok]
    rw [if_neg (by simp), show r.1 - 2 - (r.1 - q.2 - 2) = q.2 by omega, hi, e]
    simp only [List.length_append, List.append_assoc]
    congr 2
    omega
/-- What the first byte and the rest tell. -/
theorem fget_body {c : UInt8} {t : List UInt8} {f : Fr} {at_ : Nat} (h1 : n8 c ≤ 63) (h2 : c ≠ 0) (h : rbody (c :: t) (1, 0) { fr0 with k := (n8 c : Nat) } = ((at_, 0), f)) : fget (c :: t) = (f, at_, 0) := by
  unfold fget
  rw [if_neg (by simp), show nth (c :: t) 0 = c from rfl, if_neg (by omega), if_neg h2]
  simp only [h]
  rw [if_neg (by simp)]
theorem rbytes_app {b y dat : List UInt8} {at_ o : Nat} {f : Fr} (ho : o + dat.length ≤ 4611686018427387903) (hd : dat.length < 16384) (h : b.drop at_ = vP o ++ (vP dat.length ++ (dat ++ y))) :
    rbytes b (at_, 0) f = ((at_ + (vP o).length + (vP dat.length).length + dat.length, 0), { f with o := o, dat := dat }) := by
  have h1 := rvP (by omega) h
  have h2 := rvP (by omega) h1.2
  have h3 := rtP rfl h2.2
  unfold rbytes
  simp only [h1.1, h2.1]
  rw [decide_eq_false (show ¬ 16383 < dat.length by omega), decide_eq_false (show ¬ 4611686018427387903 - dat.length < o by omega)]
  simp only [Bool.or_false, rfail_ok, h3.1]
theorem rack_app {b y : List UInt8} {at_ d : Nat} {rs : List (Nat × Nat)} {f : Fr} (hf : f.rs = []) (hd : d ≤ 4611686018427387903) (ho : rsOk rs = true) (h : b.drop at_ = ackB d rs ++ (ackR rs (rs.length - 1) ++ y)) :
    rack b (at_, 0) f = ((at_ + (ackB d rs).length + (ackR rs (rs.length - 1)).length, 0), { f with d := d, rs := rs }) := by
  unfold rsOk at ho
  simp only [Bool.and_eq_true, decide_eq_true_eq] at ho
  obtain ⟨⟨h1, h8⟩, hall⟩ := ho
  cases rs with
  | nil => simp at h1
  | cons r l =>
    obtain ⟨k1, k2, -, -⟩ := rsAll_cons hall
    have eB : ackB d (r :: l) = vP r.2 ++ (vP d ++ (vP l.length ++ vP (r.2 - r.1))) := by simp [ackB, rhi, rlo]
    rw [eB] at h ⊢
    simp only [List.append_assoc] at h
    rw [show (r :: l).length - 1 = l.length by simp] at h ⊢
    have g1 := rvP k2 h
    have g2 := rvP hd g1.2
    have g3 := rvP (n := l.length) (by simp at h8; omega) g2.2
    have g4 := rgo_app l r _ [] y hall g3.2
    unfold rack
    simp only [g1.1, g2.1, g3.1]
    rw [decide_eq_false (show ¬ 8 ≤ l.length by simp at h8; omega), rfail_ok, hf, g4]
    simp only [List.length_append, List.nil_append]
    congr 2
    omega
theorem rcid_app {b y cid tok : List UInt8} {at_ n : Nat} {f : Fr} (hn : n ≤ 4611686018427387903) (hc : cid.length = 8) (ht : tok.length = 16) (h : b.drop at_ = vP n ++ ([0] ++ ([8] ++ (cid ++ (tok ++ y))))) :
    rcid b (at_, 0) f = ((at_ + (vP n).length + 26, 0), { f with n := n, cid := cid, tok := tok }) := by
  have h1 := rvP hn h
  have h2 := rzP h1.2
  have h3 := rtP (n := 1) rfl h2.2
  have h4 := rtP hc h3.2
  have h5 := rtP ht h4.2
  unfold rcid
  simp only [h1.1, h2.1]
  rw [show ([8] : List UInt8).length = 1 from rfl] at h3 h4 h5
  rw [h3.1]
  simp only []
  rw [show (decide (([8] : List UInt8).length = 1) && (nth ([8] : List UInt8) 0 != 8)) = false by decide, rfail_ok]
  rw [hc] at h4
  rw [hc, ht] at h5
  rw [h4.1]
  simp only []
  rw [h5.1]
set_option maxHeartbeats 1000000 in
/-- What is laid is read as it was. -/
theorem fget_put (f : Fr) (hm : f.may = true) (hk : f.k ≠ 0) (y : List UInt8) : fget (f.put ++ y) = (f, f.put.length, 0) := by
  obtain ⟨k, n, d, rs, i, o, fin, dat, cid, tok⟩ := f
  simp only [] at hk
  unfold Fr.may mayB at hm
  simp only [] at hm
  rw [if_neg hk] at hm
  split at hm
  · rename_i h
    simp only [plainB, Bool.and_eq_true, decide_eq_true_eq, Bool.not_eq_true', List.length_eq_zero_iff] at hm
    obtain ⟨⟨⟨⟨⟨⟨⟨⟨rfl, rfl⟩, rfl⟩, rfl⟩, rfl⟩, rfl⟩, rfl⟩, rfl⟩, rfl⟩ := hm
    rcases h with rfl | rfl
    · refine fget_body (c := 1) (by decide) (by decide) ?_
      rfl
    · refine fget_body (c := 30) (by decide) (by decide) ?_
      rfl
  split at hm
  · rename_i h
    simp only [plainB, Bool.and_eq_true, decide_eq_true_eq, Bool.not_eq_true', List.length_eq_zero_iff] at hm
    obtain ⟨⟨hd, ho⟩, ⟨⟨⟨⟨⟨⟨⟨⟨rfl, -⟩, -⟩, rfl⟩, rfl⟩, rfl⟩, rfl⟩, rfl⟩, rfl⟩⟩ := hm
    subst h
    have hr := rack_app (b := 2 :: (ackB d rs ++ (ackR rs (rs.length - 1) ++ y))) (at_ := 1) (f := { fr0 with k := 2 }) rfl hd ho rfl
    unfold Fr.put
    simp only []
    rw [if_neg (by decide), if_pos trivial]
    rw [show [2] ++ ackB d rs ++ ackR rs (rs.length - 1) ++ y = 2 :: (ackB d rs ++ (ackR rs (rs.length - 1) ++ y)) by simp]
    refine fget_body (by decide) (by decide) ?_
    unfold rbody
    rw [show (((n8 2 : Nat)) : Int) = 2 by decide, if_neg (by decide), if_pos rfl]
    refine hr.trans ?_
    simp only [fr0, List.length_append, List.length_cons, List.length_nil]
  split at hm
  · rename_i h
    simp only [plainB, Bool.and_eq_true, decide_eq_true_eq, Bool.not_eq_true', List.length_eq_zero_iff] at hm
    obtain ⟨⟨hd, -, ho⟩, ⟨⟨⟨⟨⟨⟨⟨⟨rfl, rfl⟩, rfl⟩, rfl⟩, -⟩, rfl⟩, -⟩, rfl⟩, rfl⟩⟩ := hm
    subst h
    have hr := rbytes_app (b := 6 :: (vP o ++ (vP dat.length ++ (dat ++ y)))) (at_ := 1) (f := { fr0 with k := 6 }) ho hd rfl
    unfold Fr.put
    simp only []
    rw [if_neg (by decide), if_neg (by decide), if_pos trivial]
    rw [show [6] ++ vP o ++ vP dat.length ++ dat ++ y = 6 :: (vP o ++ (vP dat.length ++ (dat ++ y))) by simp]
    refine fget_body (by decide) (by decide) ?_
    unfold rbody
    rw [show (((n8 6 : Nat)) : Int) = 6 by decide, if_neg (by decide), if_neg (by decide), if_pos rfl]
    refine hr.trans ?_
    simp only [fr0, List.length_append, List.length_cons, List.length_nil]
  split at hm
  · rename_i h
    simp only [plainB, Bool.and_eq_true, decide_eq_true_eq, Bool.not_eq_true', List.length_eq_zero_iff] at hm
    obtain ⟨⟨hd, hi, ho⟩, ⟨⟨⟨⟨⟨⟨⟨⟨rfl, rfl⟩, rfl⟩, -⟩, -⟩, -⟩, -⟩, rfl⟩, rfl⟩⟩ := hm
    subst h
    unfold Fr.put
    simp only []
    rw [if_neg (by decide), if_neg (by decide), if_neg (by decide), if_pos trivial]
    obtain ⟨c, hc⟩ : ∃ c : UInt8, (if fin = true then (15 : UInt8) else 14) = c := ⟨_, rfl⟩
    rw [hc]
    have hv := rvP (b := c :: (vP i ++ (vP o ++ (vP dat.length ++ (dat ++ y))))) (at_ := 1) hi rfl
    have hr := rbytes_app (f := { fr0 with fin := fin, k := 8, i := i }) ho hd hv.2
    rw [show [c] ++ vP i ++ vP o ++ vP dat.length ++ dat ++ y = c :: (vP i ++ (vP o ++ (vP dat.length ++ (dat ++ y)))) by simp]
    have h15 : (((n8 c : Nat)) : Int) = if fin then 15 else 14 := by subst hc; cases fin <;> decide
    refine fget_body (by subst hc; cases fin <;> decide) (by subst hc; cases fin <;> decide) ?_
    unfold rbody
    rw [h15]
    have e1 : ((if fin = true then (15 : Int) else 14) == 15) = fin := by cases fin <;> decide
    simp only []
    rw [if_neg (by cases fin <;> decide), if_neg (by cases fin <;> decide), if_neg (by cases fin <;> decide), if_pos (by cases fin <;> decide), e1, hv.1]
    simp only [hr]
    simp only [fr0, List.length_append, List.length_cons, List.length_nil]
  split at hm
  · rename_i h
    simp only [plainB, Bool.and_eq_true, decide_eq_true_eq, Bool.not_eq_true', List.length_eq_zero_iff] at hm
    obtain ⟨hn, ⟨⟨⟨⟨⟨⟨⟨⟨-, rfl⟩, rfl⟩, rfl⟩, rfl⟩, rfl⟩, rfl⟩, rfl⟩, rfl⟩⟩ := hm
    rcases h with rfl | rfl | rfl
    · have hv := rvP (b := 16 :: (vP n ++ y)) (at_ := 1) hn rfl
      unfold Fr.put
      simp only []
      rw [if_neg (by decide), if_neg (by decide), if_neg (by decide), if_neg (by decide), if_pos trivial]
      rw [show [16] ++ vP n ++ y = 16 :: (vP n ++ y) by simp]
      refine fget_body (by decide) (by decide) ?_
      unfold rbody
      rw [show (((n8 16 : Nat)) : Int) = 16 by decide, if_neg (by decide), if_neg (by decide), if_neg (by decide), if_neg (by decide), if_pos (by decide), hv.1]
      simp only [fr0, List.length_append, List.length_cons, List.length_nil]
    · have hv := rvP (b := 25 :: (vP n ++ y)) (at_ := 1) hn rfl
      unfold Fr.put
      simp only []
      rw [if_neg (by decide), if_neg (by decide), if_neg (by decide), if_neg (by decide), if_neg (by decide), if_pos trivial]
      rw [show [25] ++ vP n ++ y = 25 :: (vP n ++ y) by simp]
      refine fget_body (by decide) (by decide) ?_
      unfold rbody
      rw [show (((n8 25 : Nat)) : Int) = 25 by decide, if_neg (by decide), if_neg (by decide), if_neg (by decide), if_neg (by decide), if_pos (by decide), hv.1]
      simp only [fr0, List.length_append, List.length_cons, List.length_nil]
    · have hv := rvP (b := 28 :: (vP n ++ ([0] ++ ([0] ++ y)))) (at_ := 1) hn rfl
      have h1 := rzP hv.2
      have h2 := rzP h1.2
      unfold Fr.put
      simp only []
      rw [if_neg (by decide), if_neg (by decide), if_neg (by decide), if_neg (by decide), if_neg (by decide), if_neg (by decide), if_neg (by decide), if_neg (by decide), if_neg (by decide), if_pos trivial]
      rw [show [28] ++ vP n ++ [0, 0] ++ y = 28 :: (vP n ++ ([0] ++ ([0] ++ y))) by simp]
      refine fget_body (by decide) (by decide) ?_
      unfold rbody
      rw [show (((n8 28 : Nat)) : Int) = 28 by decide, if_neg (by decide), if_neg (by decide), if_neg (by decide), if_neg (by decide), if_neg (by decide), if_neg (by decide), if_neg (by decide), if_pos (by decide), hv.1]
      simp only []
      rw [h1.1, h2.1]
      simp only [fr0, List.length_append, List.length_cons, List.length_nil]
  split at hm
  · rename_i h
    simp only [plainB, Bool.and_eq_true, decide_eq_true_eq, Bool.not_eq_true', List.length_eq_zero_iff] at hm
    obtain ⟨⟨hn, hc, ht⟩, ⟨⟨⟨⟨⟨⟨⟨⟨-, rfl⟩, rfl⟩, rfl⟩, rfl⟩, rfl⟩, rfl⟩, -⟩, -⟩⟩ := hm
    subst h
    have hr := rcid_app (b := 24 :: (vP n ++ ([0] ++ ([8] ++ (cid ++ (tok ++ y)))))) (at_ := 1) (f := { fr0 with k := 24 }) hn hc ht rfl
    unfold Fr.put
    simp only []
    rw [if_neg (by decide), if_neg (by decide), if_neg (by decide), if_neg (by decide), if_neg (by decide), if_neg (by decide), if_pos trivial]
    rw [show [24] ++ vP n ++ [0, 8] ++ cid ++ tok ++ y = 24 :: (vP n ++ ([0] ++ ([8] ++ (cid ++ (tok ++ y))))) by simp]
    refine fget_body (by decide) (by decide) ?_
    unfold rbody
    rw [show (((n8 24 : Nat)) : Int) = 24 by decide, if_neg (by decide), if_neg (by decide), if_neg (by decide), if_neg (by decide), if_neg (by decide), if_pos rfl]
    refine hr.trans ?_
    simp only [fr0, List.length_append, List.length_cons, List.length_nil]
    congr 2
    omega
  split at hm
  · rename_i h
    simp only [plainB, Bool.and_eq_true, decide_eq_true_eq, Bool.not_eq_true', List.length_eq_zero_iff] at hm
    obtain ⟨hd, ⟨⟨⟨⟨⟨⟨⟨⟨rfl, rfl⟩, rfl⟩, rfl⟩, rfl⟩, rfl⟩, -⟩, rfl⟩, rfl⟩⟩ := hm
    rcases h with rfl | rfl
    · have hr := rtP (b := 26 :: (dat ++ y)) (at_ := 1) hd rfl
      refine fget_body (c := 26) (t := dat ++ y) (by decide) (by decide) ?_
      unfold rbody
      rw [show (((n8 26 : Nat)) : Int) = 26 by decide, if_neg (by decide), if_neg (by decide), if_neg (by decide), if_neg (by decide), if_neg (by decide), if_neg (by decide), if_pos (by decide), hr.1]
      simp only [fr0, Fr.put]
      simp
      omega
    · have hr := rtP (b := 27 :: (dat ++ y)) (at_ := 1) hd rfl
      refine fget_body (c := 27) (t := dat ++ y) (by decide) (by decide) ?_
      unfold rbody
      rw [show (((n8 27 : Nat)) : Int) = 27 by decide, if_neg (by decide), if_neg (by decide), if_neg (by decide), if_neg (by decide), if_neg (by decide), if_neg (by decide), if_pos (by decide), hr.1]
      simp only [fr0, Fr.put]
      simp
      omega
  · exact absurd hm (by decide)
end Frm
end
