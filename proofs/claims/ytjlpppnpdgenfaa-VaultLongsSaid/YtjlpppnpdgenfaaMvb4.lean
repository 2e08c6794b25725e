/- LibP; HdrW7. -/
import Derived.Test.YtjlpppnpdgenfaaMvbLibM
import Derived.Laws.AppendOwn
import Derived.Laws.AppendOwnNone
import Derived.Test.YtjlpppnpdgenfaaMvb3
import Derived.RegionTactic
import Derived.BigRegion
section
namespace Go.Rw
open Go Go.RowKit
theorem Mut.own {B N n : Nat} {e : TypeId} {v : Value} {xs : List Value} {w w' : World} (h : Mut B w w') (ho : w.ownsRow N e 1 v n xs) (hN : B < N) : w'.ownsRow N e 1 v n xs :=
 own_grown (r := some B) ho ⟨h.os, h.tape, h.output, h.size, fun k hk hne => h.block k hk (fun e => hne (by rw [e]))⟩ (fun k hk he => by have := (ho.lt k hk).1; injection he; omega)
structure Mut2 (B C : Nat) (w w' : World) : Prop where
 os : w'.os = w.os
 tape : w'.tape = w.tape
 output : w'.output = w.output
 size : w.heap.size ≤ w'.heap.size
 block : ∀ k, k < w.heap.size → k ≠ B → k ≠ C → w'.heap[k]? = w.heap[k]?
theorem Mut2.refl (B C : Nat) (w : World) : Mut2 B C w w := ⟨rfl, rfl, rfl, Nat.le_refl _, fun _ _ _ _ => rfl⟩
theorem Mut2.trans {B C : Nat} {a b c : World} (h : Mut2 B C a b) (k : Mut2 B C b c) : Mut2 B C a c :=
 ⟨k.os.trans h.os, k.tape.trans h.tape, k.output.trans h.output, Nat.le_trans h.size k.size, fun i hi h1 h2 => (k.block i (Nat.lt_of_lt_of_le hi h.size) h1 h2).trans (h.block i hi h1 h2)⟩
theorem Mut.left {B : Nat} (C : Nat) {w w' : World} (h : Mut B w w') : Mut2 B C w w' := ⟨h.os, h.tape, h.output, h.size, fun k hk h1 _ => h.block k hk h1⟩
theorem Mut.right {C : Nat} (B : Nat) {w w' : World} (h : Mut C w w') : Mut2 B C w w' := ⟨h.os, h.tape, h.output, h.size, fun k hk _ h2 => h.block k hk h2⟩
theorem Mut2.below {B C N : Nat} {w w' : World} (h : Mut2 B C w w') (hB : N ≤ B) (hC : N ≤ C) (hs : N ≤ w.heap.size) : Below N w w' :=
 ⟨h.os, h.tape, h.output, h.size, fun k hk => h.block k (Nat.lt_of_lt_of_le hk hs) (by omega) (by omega)⟩
theorem Mut2.row {B C b : Nat} {w w' : World} {c : Array Value} (h : Mut2 B C w w') (hr : row? w b = some c) (h1 : b ≠ B) (h2 : b ≠ C) : row? w' b = some c := by
 have := h.block b (row?_lt hr) h1 h2
 unfold row? at hr ⊢
 rw [this]; exact hr
theorem app_sl {P : Program} {w : World} {ops : Array Oper} {rest : List Oper} {o : Oper} {a : Act} {Q : Exit → Act → World → Prop} (hgd : o.guard = none) (s x : Operand) (t : TypeId)
  (ho : o.op = .call { callee := .builtin .append, args := #[s, x], argTypes := #[t, t] })
  (base : Nat) (e : TypeId) (i : TypeInfo) (ht : P.underlying t = some (.slice e)) (hi : P.info? e = some i) (hz : i.zero = some (.int .u8 0))
  (hsize : i.size = 1) (hby : i.bytes = 1)
  (v : Value) (l : List UInt8) (hs : a.eval s = v) (hown : w.ownsRow base e 1 v l.length (l.map bv))
  (u : Value) (m : List UInt8) (hx : a.eval x = u) (hu : Sl w u m) (hlen : l.length + m.length ≤ 2000000) (hbase : base ≤ w.heap.size)
  (h : ∀ v' w', w'.ownsRow base e 1 v' (l ++ m).length ((l ++ m).map bv) → w.grownBy w' v.ownBlock → wpList P ops Q rest (a.put o.dst v') w') : wpList P ops Q (o :: rest) a w := by
 obtain ⟨ao, cap, rfl, hc, hnn, hp⟩ := hu
 cases ao with
 | none =>
  obtain rfl := hnn rfl
  obtain rfl : m = [] := List.eq_nil_of_length_eq_zero (by omega)
  refine wpList_append_own_none hgd s x t ho base e i 1 ht hi v l.length (l.map bv) hs hown hx (h v w ?_ ⟨rfl, rfl, rfl, Nat.le_refl _, fun _ _ _ => rfl⟩)
  simpa using hown
 | some ad =>
  refine wpList_append_own w hgd s x t ho base e i (.int .u8 0) 1 1 ht hi hz hsize hby rfl (by decide) v l.length (l.map bv) hs hown ad m.length cap (m.map bv) hx (by simp) ?_ (map_bv_one m) (by unfold maxLen; omega) (by omega) hbase ?_
  ·intro j u hj
   have hjl : j < m.length := by have := (List.getElem?_eq_some_iff.1 hj).1; simpa using this
   obtain ⟨b, off, e, hcell⟩ := hp (by omega)
   cases e
   rw [Addr.add_lit, hcell j hjl, ← hj]
   simp [nth, bv, n8, hjl]
  ·intro v' w' h2 h3 _
   refine h v' w' ?_ h3
   rw [List.length_append, List.map_append]
   exact h2
end Go.Rw

end
section
namespace Go.Proofs.Ytjlpppnpdgenfaa
open Go.RowKit Go.Rw Hdr
attribute [local go_sem ↓] shift_shl8 shift_shr8 shift_shl64 shift_shr64
theorem shl1_0 : Op.shift .shl .i64 1 .u8 ((0 : Nat) : Int) = pure (.int .i64 1) := by kernel_rfl
theorem shl1_1 : Op.shift .shl .i64 1 .u8 ((1 : Nat) : Int) = pure (.int .i64 2) := by kernel_rfl
theorem shl1_2 : Op.shift .shl .i64 1 .u8 ((2 : Nat) : Int) = pure (.int .i64 4) := by kernel_rfl
theorem shl1_3 : Op.shift .shl .i64 1 .u8 ((3 : Nat) : Int) = pure (.int .i64 8) := by kernel_rfl
theorem shl1_many (c : UInt8) : Op.shift .shl .i64 1 .u8 (n8 (shr8 c 6) : Nat) = pure (.int .i64 (vmany c : Nat)) := by
 have h : n8 (shr8 c 6) = n8 c / 64 := n8_shr8 c 6
 have hc := n8_lt c
 have h3 : n8 c / 64 < 4 := by omega
 unfold vmany
 rw [h]
 generalize n8 c / 64 = k at h3
 match k, h3 with
 | 0, _ => exact shl1_0
 | 1, _ => exact shl1_1
 | 2, _ => exact shl1_2
 | 3, _ => exact shl1_3
theorem and63 (c : UInt8) : n8 (c &&& 63) = n8 c % 64 := by
 unfold n8
 rw [UInt8.toNat_and]
 exact Nat.and_two_pow_sub_one_eq_mod (n := 6) c.toNat
attribute [local go_sem ↓] shl1_many
def foldN (x : Nat) (l : List UInt8) : Nat := l.foldl (fun n c => n * 256 + n8 c) x
theorem foldN_succ (x : Nat) (l : List UInt8) (k : Nat) (h : k < l.length) : foldN x (l.take (k + 1)) = foldN x (l.take k) * 256 + n8 (nth l k) := by
 unfold foldN nth
 rw [List.take_add_one, List.foldl_append, List.getElem?_eq_getElem h]
 rfl
theorem foldN_lt {x k : Nat} (l : List UInt8) (hx : x < 64) (hk : (l.take k).length ≤ 6) : foldN x (l.take k) < 72057594037927936 := by
 refine Nat.lt_of_lt_of_le (fold_lt (l.take k) x) ?_
 exact Nat.le_trans (Nat.mul_le_mul (show x + 1 ≤ 64 by omega) (Nat.pow_le_pow_right (n := 256) (by decide) hk)) (by decide)
set_option maxRecDepth 100000 in
set_option maxHeartbeats 1000000 in
theorem vget_any (l : List UInt8) (hl : l.length ≤ 1000000) (v : Value) (w : World) (hs : Sl w v l) :
  Calls Try.prog 92 #[v] w fun e w' => e = .returned (.tuple #[.int .u64 ((vget l).1 : Nat), .int .i64 ((vget l).2.1 : Nat), .int .i64 (vget l).2.2]) ∧ w = w' := by
 have hs0 := hs
 obtain ⟨ao, cap, rfl, hc, hnn, hp⟩ := hs0
 clear hnn
 by_cases h0 : l.length = 0
 ·have e : vget l = (0, 0, 3) := by unfold vget; rw [if_pos (.inl h0)]
  rw [e]
  go_enter Try.func92, Try.ntmps92
  go_wp2_with fail
  go_ret3
  exact ⟨rfl, rfl⟩
 obtain ⟨b, off, rfl, hcell⟩ := hp (by omega)
 clear hp
 have c0 : w.cell? ⟨b, off, none⟩ = some (.int .u8 (n8 (nth l 0) : Nat)) := by have := hcell 0 (by omega); simpa using this
 have hmp := vmany_pos (nth l 0)
 have hm8 := vmany_le (nth l 0)
 by_cases hsh : l.length < vmany (nth l 0)
 ·have e : vget l = (0, 0, 3) := by unfold vget; rw [if_pos (.inr hsh)]
  rw [e]
  clear hcell hs
  go_enter Try.func92, Try.ntmps92
  go_wp2_with fail
  go_ret3
  exact ⟨rfl, rfl⟩
 have e : vget l = (vnum l, vmany (nth l 0), 0) := by unfold vget; rw [if_neg (by omega)]
 rw [e]
 unfold vnum
 have hsc := hs.cut 1 (vmany (nth l 0)) hmp (by omega)
 have hTl : ((l.take (vmany (nth l 0))).drop 1).length = vmany (nth l 0) - 1 := by simp; omega
 generalize (l.take (vmany (nth l 0))).drop 1 = T at hsc hTl ⊢
 obtain ⟨c, hcdef⟩ : ∃ c, c = nth l 0 := ⟨_, rfl⟩
 rw [← hcdef] at c0 hmp hm8 hsh e hsc hTl ⊢
 have hx := and63 c
 have hx64 : n8 (c &&& 63) < 64 := by omega
 rw [← hx]
 show Calls _ _ _ _ fun e w' => e = .returned (.tuple #[.int .u64 ((foldN (n8 (c &&& 63)) T : Nat) : Int), _, _]) ∧ _
 generalize hmany : vmany c = m at *
 have hcut : ∀ W, (Instr.sliceAt 27 (.slice (some ⟨b, off, none⟩) l.length cap) (some (.int .i64 1)) (some (.int .i64 (m : Nat))) none).run Try.prog W = .ok (.slice (cutA (some ⟨b, off, none⟩) 1 cap) (m - 1) (cap - 1)) W := fun W => by
  rw [cut_lh TB W _ _ _ _ _ _ _ (by decide) (by omega) (by omega), Int.toNat_natCast]; rfl
 obtain ⟨ao2, cap2, hv2, hc2, hnn2, hp2⟩ := hsc
 injection hv2 with hv2a hv2b hv2c
 clear hs hcell e hnn2 hcdef
 have HX := Lib.hid hx64
 have HTL := Lib.hid hTl
 clear hx hx64 hTl
 go_enter Try.func92, Try.ntmps92
 go_wp2_with fail
 go_loopw [6, 8, 36] (fun va vc v wr => ∃ k : Nat, k ≤ T.length ∧ va = .int .u64 (foldN (n8 (c &&& 63)) (T.take k) : Nat) ∧ v = .int .i64 k ∧ w = wr) (fun _ _ v _ => T.length - (intOf v).toNat)
 case atStart => exact ⟨0, by omega, by rw [n64_wide]; rfl, rfl, rfl⟩
 case round =>
  obtain ⟨k, hk, rfl, rfl, rfl⟩ := hrel
  by_cases hlt2 : k < T.length
  ·obtain ⟨b1, off1, rfl, hcell1⟩ := hp2 (by omega)
   have c1 := hcell1 k hlt2
   have hxk := foldN_lt (x := n8 (c &&& 63)) (k := k) T HX.out (by have := HTL.out; rw [List.length_take]; omega)
   have hst := num_step (foldN (n8 (c &&& 63)) (T.take k)) (nth T k) hxk
   rw [← foldN_succ _ T k hlt2] at hst
   obtain ⟨X, hX⟩ : ∃ X : UInt64, X = UInt64.ofNat (foldN (n8 (c &&& 63)) (T.take k)) := ⟨_, rfl⟩
   have hq : foldN (n8 (c &&& 63)) (T.take k) = n64 X := by rw [hX]; exact (n64_ofNat _ (by omega)).symm
   rw [← hX] at hst
   rw [hq]
   have HS := Lib.hid hst
   clear hq hX hxk hst hcell1
   go_wp2_with fail
   go_roundw
   case rel => exact ⟨k + 1, by omega, by rw [← HS.out], by go_num, by first | rfl | trivial⟩
   case measure => simp [intOf]; omega
  ·obtain rfl : k = T.length := by omega
   rw [List.take_length]
   go_wp2_with fail
   go_ret3
   exact ⟨rfl, rfl⟩
end Go.Proofs.Ytjlpppnpdgenfaa

end
