/- The walks of a table: made, sealed with, how much is left. -/
import Derived.Test.YtjlpppnpdgenfaaMvb21
import Derived.Test.YtjlpppnpdgenfaaMvb2
import Derived.RegionTactic
import Derived.BigRegion
namespace Go.Proofs.Ytjlpppnpdgenfaa
open Go.RowKit Go.Rw Aes Hdr Vlt
theorem mk_bytesV (n : Nat) (h : n ≤ 1000000) (w : World) : (Instr.makeSlice 27 (.int .i64 (n : Nat)) (.int .i64 (n : Nat))).run Try.prog w = .ok (.slice (some ⟨w.heap.size, 0, none⟩) n n) (w.alloc (.cells (bvs (List.replicate n 0)) 5)) := by
 obtain ⟨i0, hi, hz0, hz1, hz2⟩ := info_parts info8
 rw [run_make w _ _ i0 _ Try.underlying27 hi hz0 .i64 .i64 (n : Nat) (n : Nat) (by omega) (by omega) (by rw [hz2]; omega) (by omega)]
 rw [hz1, Nat.mul_one]
 simp only [Int.toNat_natCast]
 have e : madeCells (Value.int .u8 0).cells n = bvs (List.replicate n 0) := Array.toList_inj.1 (by rw [show (Value.int .u8 0).cells = #[Value.int .u8 0] from rfl, zeros_made]; simp [bvs])
 rw [e]
def tbA (vo : Value) (last : Int) (vm : Value) : Array Value := #[vo, .int .i64 last, vm]
theorem run_mm (t : TypeId) (w : World) : (Instr.makeMap t none).run Try.prog w = .ok (.map (some w.heap.size)) (w.alloc (.map #[] 0)) := rfl
set_option maxRecDepth 100000 in
set_option maxHeartbeats 1000000 in
theorem newtable_any (l : List UInt8) (hl : l.length ≤ 1000000) (v : Value) (w : World) (hs : Sl w v l) :
  Calls Try.prog 22 #[v] w fun e w' => ∃ B vo vm, e = .returned (.pointer (some ⟨B, 0, none⟩)) ∧ w.heap.size ≤ B ∧ row? w' B = some (tbA vo 0 vm) ∧ w'.ownsRow w.heap.size 5 1 vo l.length (l.map bv) ∧ (∀ q, vo.ownBlock = some q → q < B) ∧ Below w.heap.size w w' := by
 have hmm := run_mm 76
 obtain ⟨ao, cap, rfl, -, -, -⟩ := id hs
 have HS := Lib.hid hs
 clear hs
 go_enter Try.func22, Try.ntmps22
 go_wp2_with fail
 refine (clone_any l hl _ w HS.out).mono ?_
 rintro e w1 ⟨vo, rfl, o1, b1⟩
 obtain ⟨a1, c1, rfl, -, -, -⟩ := id (Own.sl o1)
 have O1 := Lib.hid o1
 clear o1
 go_wp2_with fail
 have z1 := b1.size
 have hb2 : Below w1.heap.size w1 ((w1.alloc (.map #[] 0)).alloc (.cells #[.slice a1 l.length c1, .int .i64 0, .map (some w1.heap.size)] 78)) := bel2 w1 _ _
 go_ret
 exact ⟨w1.heap.size + 1, _, _, rfl, by omega, row?_alloc_at _ _ _ _ (by simp), Go.Rw.own_below O1.out hb2, fun q hq => by have := (O1.out.lt q hq).2; omega, b1.trans (hb2.mono z1)⟩
theorem cap_take (l : List UInt8) (n : Nat) : l.take n ++ (List.replicate n (0 : UInt8)).drop l.length = l.take n ++ List.replicate (n - l.length) 0 := by rw [List.drop_replicate]
def padded (l : List UInt8) (n : Nat) : List UInt8 := l.take n ++ List.replicate (n - l.length) 0
theorem padded_length (l : List UInt8) (n : Nat) : (padded l n).length = n := by simp [padded]; omega
set_option maxRecDepth 100000 in
set_option maxHeartbeats 2000000 in
theorem tseal_no (B : Nat) (size : Int) (h : size < 0 ∨ 2000 < size) (w : World) :
  Calls Try.prog 24 #[.pointer (some ⟨B, 0, none⟩), .int .i64 size] w fun e w' => e = .returned (.tuple #[.slice none 0 0, .int .i64 0]) ∧ w = w' := by
 by_cases h0 : size < 0
 ·clear h
  go_enter Try.func24, Try.ntmps24
  go_wp2_with fail
  go_ret2
  exact ⟨rfl, rfl⟩
 ·have h2 : 2000 < size := by omega
  clear h
  go_enter Try.func24, Try.ntmps24
  go_wp2_with fail
  go_ret2
  exact ⟨rfl, rfl⟩
set_option maxRecDepth 100000 in
set_option maxHeartbeats 2000000 in
theorem tseal_any (B : Nat) (n : Nat) (hn : n ≤ 2000) (l : List UInt8) (hl : l.length ≤ 1000000) (vo vm : Value) (last : Nat) (hla : last ≤ 1000) (w : World) (hr : row? w B = some (tbA vo (last : Nat) vm)) (hs : Sl w vo l) (hne : ∀ b off n cap, vo = .slice (some ⟨b, off, none⟩) n cap → 0 < n → b ≠ B) :
  Calls Try.prog 24 #[.pointer (some ⟨B, 0, none⟩), .int .i64 (n : Nat)] w fun e w' => ∃ v vo', e = .returned (.tuple #[v, .int .i64 (last + 1 : Nat)]) ∧ w'.ownsRow w.heap.size 5 1 v n ((padded l n).map bv) ∧ row? w' B = some (tbA vo' (last + 1 : Nat) vm) ∧ Sl w' vo' (l.drop n) ∧
   (∀ b off n cap, vo' = .slice (some ⟨b, off, none⟩) n cap → 0 < n → ∃ off' n' cap', vo = .slice (some ⟨b, off', none⟩) n' cap' ∧ 0 < n') ∧ Mut B w w' := by
 have hmk := mk_bytesV n (by omega)
 obtain ⟨ao, cap, rfl, hcap, -, -⟩ := id hs
 have hBw := row?_lt hr
 have HS := Lib.hid hs
 have HR := Lib.hid hr
 have HNE := Lib.hid hne
 have hrm : (Nat.min l.length n : Nat) = min l.length n := rfl
 have hcopy := run_copy_sl (P := Try.prog) (dT := 27) (sT := 27) (ty := 3) (elem := 5) Try.underlying27 (by kernel_rfl) (w := (w.alloc (.cells (bvs (List.replicate n 0)) 5)).drew) (g := w.heap.size) (c := List.replicate n 0) (l := l) (v := .slice ao l.length cap) n n ((row?_drew _ _).trans (row?_alloc_at _ _ _ _ rfl)) (by simp) (hs.below ((Below.refl _ _).alloc (Nat.le_refl _) _).drew)
 rw [setRow_drew, setRow_alloc_at _ _ _ _ _ rfl, cap_take] at hcopy
 rw [show l.take n ++ List.replicate (n - l.length) 0 = padded l n from rfl] at hcopy
 obtain ⟨mm, hmm⟩ : ∃ mm, Nat.min l.length n = mm := ⟨_, rfl⟩
 rw [hmm] at hcopy
 have hml : mm ≤ l.length := by rw [← hmm]; exact Nat.min_le_left _ _
 have r1 : row? (w.alloc (.cells (bvs (List.replicate n 0)) 5)) B = some (tbA (.slice ao l.length cap) (last : Nat) vm) := by rw [row?_alloc_past _ _ _ hBw]; exact hr
 have c0 : (w.alloc (.cells (bvs (List.replicate n 0)) 5)).cell? ⟨B, 0, none⟩ = some (.slice ao l.length cap) := row?_cell r1 0
 have HMM := Lib.hid hmm
 have R1 := Lib.hid r1
 clear hr hs hne hrm hmm r1
 go_enter Try.func24, Try.ntmps24
 go_wp2_with fail
 have r2 : row? (w.alloc (.cells (bvs (padded l n)) 5)) B = some (tbA (.slice ao l.length cap) (last : Nat) vm) := by rw [row?_alloc_past _ _ _ hBw]; exact HR.out
 have c0' : (w.alloc (.cells (bvs (padded l n)) 5)).cell? ⟨B, 0, none⟩ = some (.slice ao l.length cap) := row?_cell r2 0
 have f0 := row?_frozen r2 0
 have f1 := row?_frozen R1.out 0
 have R2 := Lib.hid r2
 clear r2
 go_region
 have hX : (if cap = mm then ao else Option.map (fun x => x.add mm) ao) = cutA ao mm cap := by unfold cutA; rw [Nat.mul_one]
 rw [hX]
 have hsx : Sl w (.slice (cutA ao mm cap) (l.length - mm) (cap - mm)) (l.drop n) := by
  have := HS.out.cut mm l.length hml (Nat.le_refl _)
  rw [List.take_length] at this
  have e : l.drop mm = l.drop n := by
   rw [← HMM.out]
   show l.drop (min l.length n) = _
   rcases Nat.le_total l.length n with h | h
   ·rw [Nat.min_eq_left h, List.drop_of_length_le (Nat.le_refl _), List.drop_of_length_le h]
   ·rw [Nat.min_eq_right h]
  rw [e] at this
  exact this
 have hblk : ∀ b off n' cap', Value.slice (cutA ao mm cap) (l.length - mm) (cap - mm) = .slice (some ⟨b, off, none⟩) n' cap' → 0 < n' → ∃ off' n' cap', Value.slice ao l.length cap = .slice (some ⟨b, off', none⟩) n' cap' ∧ 0 < n' := by
  intro b off n' cap' e h0
  injection e with e1 e2 e3
  obtain ⟨ao', cap'', e', -, -, hp⟩ := HS.out
  cases e'
  obtain ⟨b0, off0, rfl, -⟩ := hp (by omega)
  unfold cutA at e1
  split at e1
  ·injection e1 with e1; injection e1 with e1; subst e1; exact ⟨_, _, _, rfl, by omega⟩
  ·simp only [Option.map_some, Addr.add_lit] at e1
   injection e1 with e1; injection e1 with e1; subst e1; exact ⟨_, _, _, rfl, by omega⟩
 have HBK := Lib.hid hblk
 generalize (Value.slice (cutA ao mm cap) (l.length - mm) (cap - mm)) = vx at hsx HBK ⊢
 have w2r : row? ((w.setCell ⟨B, 0, none⟩ vx).alloc (.cells (bvs (padded l n)) 5)).drew B = some (tbA vx (last : Nat) vm) := by
  rw [row?_drew, row?_alloc_past _ _ _ (by simpa using hBw), row?_setCell_eq HR.out]; rfl
 have w2o : ((w.setCell ⟨B, 0, none⟩ vx).alloc (.cells (bvs (padded l n)) 5)).drew.ownsRow w.heap.size 5 1 (.slice (some ⟨w.heap.size, 0, none⟩) n n) n ((padded l n).map bv) := by
  have h := World.ownsRow_lit (base := w.heap.size) (size := 1) (e := 5) (w.setCell ⟨B, 0, none⟩ vx) (bvs (padded l n)) n (by simp) (by unfold maxLen; omega) (by rw [bvs_size, padded_length, Nat.mul_one])
  have e1 : (w.setCell ⟨B, 0, none⟩ vx).heap.size = w.heap.size := by simp
  rw [e1] at h
  have e2 : (bvs (padded l n)).toList = (padded l n).map bv := by simp [bvs]
  rw [e2] at h
  exact h.drew
 have w2m : Mut B w ((w.setCell ⟨B, 0, none⟩ vx).alloc (.cells (bvs (padded l n)) 5)).drew := (((Mut.refl B w).setCell 0 none vx).trans (Mut.of_below ((Below.refl _ _).alloc (Nat.le_refl _) _))).drew
 generalize ((w.setCell ⟨B, 0, none⟩ vx).alloc (.cells (bvs (padded l n)) 5)).drew = W2 at w2r w2o w2m ⊢
 clear hblk hX c0 c0' f0 f1 R1 R2 hcopy HR HMM
 have c1 : W2.cell? ⟨B, 1, none⟩ = some (.int .i64 (last : Nat)) := row?_cell w2r 1
 have f1 := row?_frozen w2r 1
 have W3r := Lib.hid (show row? (W2.setCell ⟨B, 1, none⟩ (.int .i64 ((last : Int) + 1))) B = some (tbA vx (last + 1 : Nat) vm) by rw [row?_setCell_eq w2r]; rfl)
 have W3m := Lib.hid (w2m.setCell 1 none (.int .i64 ((last : Int) + 1)))
 have W3o := Lib.hid (((Mut.refl B W2).setCell 1 none (.int .i64 ((last : Int) + 1))))
 have W2o := Lib.hid w2o
 clear w2r w2o w2m hmk
 go_wp2_with fail
 generalize W2.setCell ⟨B, 1, none⟩ (.int .i64 ((last : Int) + 1)) = W3 at W3r W3m W3o ⊢
 have c1' : W3.cell? ⟨B, 1, none⟩ = some (.int .i64 ((last : Int) + 1)) := row?_cell W3r.out 1
 clear c1 f1
 go_region
 all_goals (go_wp2_with fail)
 go_ret2
 have hne : ∀ q, (Value.slice (some ⟨w.heap.size, 0, none⟩) n n).ownBlock = some q → some q ≠ some B := fun q hq h => by
  simp [Value.ownBlock] at hq; injection h; omega
 refine ⟨_, vx, rfl, (own_grown (r := some B) W2o.out ⟨W3o.out.os, W3o.out.tape, W3o.out.output, W3o.out.size, fun k hk hne => W3o.out.block k hk (fun e => hne (by rw [e]))⟩ hne).drew, (row?_drew _ _).trans W3r.out, ?_, HBK.out, W3m.out.drew⟩
 refine (W3m.out.drew.sl hsx (fun b off n' cap' e h0 => ?_))
 obtain ⟨off', n'', cap'', e', h0'⟩ := HBK.out b off n' cap' e h0
 exact HNE.out b off' n'' cap'' e' h0'
set_option maxRecDepth 100000 in
theorem tleft_any (B : Nat) (l : List UInt8) (vo vm : Value) (last : Int) (w : World) (hr : row? w B = some (tbA vo last vm)) (hs : Sl w vo l) :
  Calls Try.prog 25 #[.pointer (some ⟨B, 0, none⟩)] w fun e w' => e = .returned (.int .i64 (l.length : Nat)) ∧ w = w' := by
 obtain ⟨ao, cap, rfl, -, -, -⟩ := id hs
 have c0 : w.cell? ⟨B, 0, none⟩ = some (.slice ao l.length cap) := row?_cell hr 0
 clear hs hr
 go_enter Try.func25, Try.ntmps25
 go_wp2_with fail
 go_ret
 exact ⟨rfl, rfl⟩
end Go.Proofs.Ytjlpppnpdgenfaa
