/- The walks of package frame's Put at frames that may be: bare ones; padding. -/
import Derived.Test.YthjbmggpleliaaaGreatDoorMhb41
import Derived.Test.YthjbmggpleliaaaGreatDoorMhb36
import Derived.Test.YthjbmggpleliaaaGreatDoorMhb4
namespace Go.Proofs.YthjbmggpleliaaaGreatDoor
open Go.RowKit Go.Rw Frm Hdr
attribute [local go_sem ↓] ldFF stFF alFF
attribute [local go_sem] rldFF rstFF ralFF setRow_alloc_at setRow_alloc_past setRow_drew
theorem mk_bytes64 (n : Nat) (h : n ≤ 1000000) (w : World) : (Instr.makeSlice 22 (.int .u64 (n : Nat)) (.int .u64 (n : Nat))).run Tryz.prog w = .ok (.slice (some ⟨w.heap.size, 0, none⟩) n n) (w.alloc (.cells (bvs (List.replicate n 0)) 5)) := by
 obtain ⟨i0, hi, hz0, hz1, hz2⟩ := info_parts info8
 rw [run_make w _ _ i0 _ Tryz.underlying22 hi hz0 .u64 .u64 (n : Nat) (n : Nat) (by omega) (by omega) (by rw [hz2]; omega) (by omega)]
 rw [hz1, Nat.mul_one]
 simp only [Int.toNat_natCast]
 have e : madeCells (Value.int .u8 0).cells n = bvs (List.replicate n 0) := Array.toList_inj.1 (by rw [show (Value.int .u8 0).cells = #[Value.int .u8 0] from rfl, zeros_made]; simp [bvs])
 rw [e]
set_option maxRecDepth 100000 in
set_option maxHeartbeats 2000000 in
theorem fput_1 (n d : Nat) (rs : List (Nat × Nat)) (i o : Nat) (fin : Bool) (dat cid tok : List UInt8) (ar ad ac at_ : Option Addr) (er ed ec et : Nat) (hm : mayB 1 n d rs.length (rsOk rs) i o fin dat.length cid.length tok.length = true) (w : World) (hr : Sr w (.slice ar rs.length er) rs) (hd : Sl w (.slice ad dat.length ed) dat) (hc : Sl w (.slice ac cid.length ec) cid) (ht : Sl w (.slice at_ tok.length et) tok) :
  Calls Tryz.prog 124 #[.agg (fvA 1 n d (.slice ar rs.length er) i o fin (.slice ad dat.length ed) (.slice ac cid.length ec) (.slice at_ tok.length et))] w fun e w' => ∃ v', e = .returned v' ∧ w'.ownsRow (w.heap.size + 1) 5 1 v' (Fr.put ⟨1, n, d, rs, i, o, fin, dat, cid, tok⟩).length ((Fr.put ⟨1, n, d, rs, i, o, fin, dat, cid, tok⟩).map bv) ∧ Below w.heap.size w w' := by
 obtain ⟨i0, hi0, hz0, hz1, hz2⟩ := info_parts info8
 have hm2 := hm
 have hpl : plainB n d rs.length i o fin dat.length cid.length tok.length = true := hm2
 have pb := plainB_true hpl
 have hnc : cid.length ≤ 1000000 := by omega
 have hnt : tok.length ≤ 1000000 := by omega
 have hmay := fun W hs' => fmay_any 1 n d i o fin ar ad ac at_ rs.length dat.length cid.length tok.length er ed ec et rs hnc hnt W hs'
 rw [may_eq _ _ _ _ _ _ _ _ _ _ _ rsOk_pos, hm2] at hmay
 have fc := fun (W : World) (b : Nat) (h : row? W b = some (fvA 1 n d (.slice ar rs.length er) i o fin (.slice ad dat.length ed) (.slice ac cid.length ec) (.slice at_ tok.length et))) => fv_cells h
 have hz : (fvA 1 n d (.slice ar rs.length er) i o fin (.slice ad dat.length ed) (.slice ac cid.length ec) (.slice at_ tok.length et)).size = 10 := rfl
 generalize fvA 1 n d (.slice ar rs.length er) i o fin (.slice ad dat.length ed) (.slice ac cid.length ec) (.slice at_ tok.length et) = F at *
 have P0 : PS w F (w.alloc (.cells F 159)) := ⟨row?_alloc_at _ _ _ _ rfl, (Below.refl _ _).alloc (Nat.le_refl _) _⟩
 have lf := rldFF (w.alloc (.cells F 159)) w.heap.size (by rw [P0.row, Option.map_some, hz])
 rw [P0.row] at lf
 have lf' : (loadAgg 159 (.pointer (some ⟨w.heap.size, 0, none⟩))).run Tryz.prog (w.alloc (.cells F 159)) = .ok (.agg F) (w.alloc (.cells F 159)) := lf
 have HMAY := Lib.hid hmay
 have FC := Lib.hid fc
 have HR := Lib.hid hr
 have HD := Lib.hid hd
 have HC := Lib.hid hc
 have HT := Lib.hid ht
 have Q0 := Lib.hid P0
 clear hmay fc lf hm hm2 P0 hr hd hc ht hpl pb
 go_enter Tryz.func124, Tryz.ntmps124
 go_wp2_with fail
 refine (HMAY.out _ (HR.out.below Q0.out.bel)).mono ?_
 rintro e w1 ⟨rfl, b1⟩
 have Q1 := Lib.hid (Q0.out.step b1)
 obtain ⟨c0, c1, c2, c3, c4, c5, c6, c7, c8, c9⟩ := FC.out _ _ Q1.out.row
 clear b1 lf' Q0
 go_wp2_with fail
 refine (vput_any [] 1 (by simp) (by omega) _ _ (Sl.nil _)).mono ?_
 rintro e w2 ⟨v2, rfl, o2, b2⟩
 have e2 : ([] ++ vin 1 (vlen 1) : List UInt8) = [1] := by decide
 obtain ⟨q2, hq2⟩ : ∃ q2 : List UInt8, [1] = q2 := ⟨_, rfl⟩
 have kq2 : q2.length ≤ 1 := by rw [← hq2]; decide
 rw [e2, hq2] at o2
 have Hq2 := Lib.hid hq2
 have O2 := Lib.hid (own_lower o2 Q1.out.size)
 have Q2 := Lib.hid (Q1.out.step b2)
 obtain ⟨a2, x2, rfl, -, -, -⟩ := id (Own.sl o2)
 clear b2 o2 hq2 e2 Q1
 clear c0 c1 c2 c3 c4 c5 c6 c7 c8 c9
 obtain ⟨c0, c1, c2, c3, c4, c5, c6, c7, c8, c9⟩ := FC.out _ _ Q2.out.row
 have HE := Lib.hid (show q2 = Fr.put ⟨1, n, d, rs, i, o, fin, dat, cid, tok⟩ by
  rw [← Hq2.out]; rfl)
 go_wp2_with fail
 go_ret
 exact ⟨_, rfl, HE.out ▸ O2.out, Q2.out.bel⟩
set_option maxRecDepth 100000 in
set_option maxHeartbeats 2000000 in
theorem fput_30 (n d : Nat) (rs : List (Nat × Nat)) (i o : Nat) (fin : Bool) (dat cid tok : List UInt8) (ar ad ac at_ : Option Addr) (er ed ec et : Nat) (hm : mayB 30 n d rs.length (rsOk rs) i o fin dat.length cid.length tok.length = true) (w : World) (hr : Sr w (.slice ar rs.length er) rs) (hd : Sl w (.slice ad dat.length ed) dat) (hc : Sl w (.slice ac cid.length ec) cid) (ht : Sl w (.slice at_ tok.length et) tok) :
  Calls Tryz.prog 124 #[.agg (fvA 30 n d (.slice ar rs.length er) i o fin (.slice ad dat.length ed) (.slice ac cid.length ec) (.slice at_ tok.length et))] w fun e w' => ∃ v', e = .returned v' ∧ w'.ownsRow (w.heap.size + 1) 5 1 v' (Fr.put ⟨30, n, d, rs, i, o, fin, dat, cid, tok⟩).length ((Fr.put ⟨30, n, d, rs, i, o, fin, dat, cid, tok⟩).map bv) ∧ Below w.heap.size w w' := by
 obtain ⟨i0, hi0, hz0, hz1, hz2⟩ := info_parts info8
 have hm2 := hm
 have hpl : plainB n d rs.length i o fin dat.length cid.length tok.length = true := hm2
 have pb := plainB_true hpl
 have hnc : cid.length ≤ 1000000 := by omega
 have hnt : tok.length ≤ 1000000 := by omega
 have hmay := fun W hs' => fmay_any 30 n d i o fin ar ad ac at_ rs.length dat.length cid.length tok.length er ed ec et rs hnc hnt W hs'
 rw [may_eq _ _ _ _ _ _ _ _ _ _ _ rsOk_pos, hm2] at hmay
 have fc := fun (W : World) (b : Nat) (h : row? W b = some (fvA 30 n d (.slice ar rs.length er) i o fin (.slice ad dat.length ed) (.slice ac cid.length ec) (.slice at_ tok.length et))) => fv_cells h
 have hz : (fvA 30 n d (.slice ar rs.length er) i o fin (.slice ad dat.length ed) (.slice ac cid.length ec) (.slice at_ tok.length et)).size = 10 := rfl
 generalize fvA 30 n d (.slice ar rs.length er) i o fin (.slice ad dat.length ed) (.slice ac cid.length ec) (.slice at_ tok.length et) = F at *
 have P0 : PS w F (w.alloc (.cells F 159)) := ⟨row?_alloc_at _ _ _ _ rfl, (Below.refl _ _).alloc (Nat.le_refl _) _⟩
 have lf := rldFF (w.alloc (.cells F 159)) w.heap.size (by rw [P0.row, Option.map_some, hz])
 rw [P0.row] at lf
 have lf' : (loadAgg 159 (.pointer (some ⟨w.heap.size, 0, none⟩))).run Tryz.prog (w.alloc (.cells F 159)) = .ok (.agg F) (w.alloc (.cells F 159)) := lf
 have HMAY := Lib.hid hmay
 have FC := Lib.hid fc
 have HR := Lib.hid hr
 have HD := Lib.hid hd
 have HC := Lib.hid hc
 have HT := Lib.hid ht
 have Q0 := Lib.hid P0
 clear hmay fc lf hm hm2 P0 hr hd hc ht hpl pb
 go_enter Tryz.func124, Tryz.ntmps124
 go_wp2_with fail
 refine (HMAY.out _ (HR.out.below Q0.out.bel)).mono ?_
 rintro e w1 ⟨rfl, b1⟩
 have Q1 := Lib.hid (Q0.out.step b1)
 obtain ⟨c0, c1, c2, c3, c4, c5, c6, c7, c8, c9⟩ := FC.out _ _ Q1.out.row
 clear b1 lf' Q0
 go_wp2_with fail
 refine (vput_any [] 30 (by simp) (by omega) _ _ (Sl.nil _)).mono ?_
 rintro e w2 ⟨v2, rfl, o2, b2⟩
 have e2 : ([] ++ vin 30 (vlen 30) : List UInt8) = [30] := by decide
 obtain ⟨q2, hq2⟩ : ∃ q2 : List UInt8, [30] = q2 := ⟨_, rfl⟩
 have kq2 : q2.length ≤ 1 := by rw [← hq2]; decide
 rw [e2, hq2] at o2
 have Hq2 := Lib.hid hq2
 have O2 := Lib.hid (own_lower o2 Q1.out.size)
 have Q2 := Lib.hid (Q1.out.step b2)
 obtain ⟨a2, x2, rfl, -, -, -⟩ := id (Own.sl o2)
 clear b2 o2 hq2 e2 Q1
 clear c0 c1 c2 c3 c4 c5 c6 c7 c8 c9
 obtain ⟨c0, c1, c2, c3, c4, c5, c6, c7, c8, c9⟩ := FC.out _ _ Q2.out.row
 have HE := Lib.hid (show q2 = Fr.put ⟨30, n, d, rs, i, o, fin, dat, cid, tok⟩ by
  rw [← Hq2.out]; rfl)
 go_wp2_with fail
 go_ret
 exact ⟨_, rfl, HE.out ▸ O2.out, Q2.out.bel⟩
set_option maxRecDepth 100000 in
set_option maxHeartbeats 2000000 in
theorem fput_0 (n d : Nat) (rs : List (Nat × Nat)) (i o : Nat) (fin : Bool) (dat cid tok : List UInt8) (ar ad ac at_ : Option Addr) (er ed ec et : Nat) (hm : mayB 0 n d rs.length (rsOk rs) i o fin dat.length cid.length tok.length = true) (w : World) (hr : Sr w (.slice ar rs.length er) rs) (hd : Sl w (.slice ad dat.length ed) dat) (hc : Sl w (.slice ac cid.length ec) cid) (ht : Sl w (.slice at_ tok.length et) tok) :
  Calls Tryz.prog 124 #[.agg (fvA 0 n d (.slice ar rs.length er) i o fin (.slice ad dat.length ed) (.slice ac cid.length ec) (.slice at_ tok.length et))] w fun e w' => ∃ v', e = .returned v' ∧ w'.ownsRow (w.heap.size + 1) 5 1 v' (Fr.put ⟨0, n, d, rs, i, o, fin, dat, cid, tok⟩).length ((Fr.put ⟨0, n, d, rs, i, o, fin, dat, cid, tok⟩).map bv) ∧ Below w.heap.size w w' := by
 obtain ⟨i0, hi0, hz0, hz1, hz2⟩ := info_parts info8
 have hm2 := hm
 have hpl : (decide (1 ≤ n ∧ n ≤ 16384) && plainB 0 d rs.length i o fin dat.length cid.length tok.length) = true := hm2
 rw [Bool.and_eq_true, decide_eq_true_eq] at hpl
 have hn := hpl.1
 have pb := plainB_true hpl.2
 have hnc : cid.length ≤ 1000000 := by omega
 have hnt : tok.length ≤ 1000000 := by omega
 have hn' : n ≤ 16384 := by omega
 have mk := mk_bytes64 n (by omega)
 have hmay := fun W hs' => fmay_any 0 n d i o fin ar ad ac at_ rs.length dat.length cid.length tok.length er ed ec et rs hnc hnt W hs'
 rw [may_eq _ _ _ _ _ _ _ _ _ _ _ rsOk_pos, hm2] at hmay
 have fc := fun (W : World) (b : Nat) (h : row? W b = some (fvA 0 n d (.slice ar rs.length er) i o fin (.slice ad dat.length ed) (.slice ac cid.length ec) (.slice at_ tok.length et))) => fv_cells h
 have hz : (fvA 0 n d (.slice ar rs.length er) i o fin (.slice ad dat.length ed) (.slice ac cid.length ec) (.slice at_ tok.length et)).size = 10 := rfl
 generalize fvA 0 n d (.slice ar rs.length er) i o fin (.slice ad dat.length ed) (.slice ac cid.length ec) (.slice at_ tok.length et) = F at *
 have P0 : PS w F (w.alloc (.cells F 159)) := ⟨row?_alloc_at _ _ _ _ rfl, (Below.refl _ _).alloc (Nat.le_refl _) _⟩
 have lf := rldFF (w.alloc (.cells F 159)) w.heap.size (by rw [P0.row, Option.map_some, hz])
 rw [P0.row] at lf
 have lf' : (loadAgg 159 (.pointer (some ⟨w.heap.size, 0, none⟩))).run Tryz.prog (w.alloc (.cells F 159)) = .ok (.agg F) (w.alloc (.cells F 159)) := lf
 have HMAY := Lib.hid hmay
 have FC := Lib.hid fc
 have HR := Lib.hid hr
 have HD := Lib.hid hd
 have HC := Lib.hid hc
 have HT := Lib.hid ht
 have Q0 := Lib.hid P0
 clear hmay fc lf hm hm2 P0 hr hd hc ht hpl pb hn
 go_enter Tryz.func124, Tryz.ntmps124
 go_wp2_with fail
 refine (HMAY.out _ (HR.out.below Q0.out.bel)).mono ?_
 rintro e w1 ⟨rfl, b1⟩
 have Q1 := Lib.hid (Q0.out.step b1)
 obtain ⟨c0, c1, c2, c3, c4, c5, c6, c7, c8, c9⟩ := FC.out _ _ Q1.out.row
 clear b1 lf' Q0
 go_wp2_with fail
 refine (vput_any [] 0 (by simp) (by omega) _ _ (Sl.nil _)).mono ?_
 rintro e w2 ⟨v2, rfl, o2, b2⟩
 have e2 : ([] ++ vin 0 (vlen 0) : List UInt8) = [0] := by decide
 obtain ⟨q2, hq2⟩ : ∃ q2 : List UInt8, [0] = q2 := ⟨_, rfl⟩
 have kq2 : q2.length ≤ 1 := by rw [← hq2]; decide
 rw [e2, hq2] at o2
 have Hq2 := Lib.hid hq2
 have O2 := Lib.hid (own_lower o2 Q1.out.size)
 have Q2 := Lib.hid (Q1.out.step b2)
 obtain ⟨a2, x2, rfl, -, -, -⟩ := id (Own.sl o2)
 clear b2 o2 hq2 e2 Q1
 clear c0 c1 c2 c3 c4 c5 c6 c7 c8 c9
 obtain ⟨c0, c1, c2, c3, c4, c5, c6, c7, c8, c9⟩ := FC.out _ _ Q2.out.row
 have HE := Lib.hid (show List.replicate n 0 = Fr.put ⟨0, n, d, rs, i, o, fin, dat, cid, tok⟩ from rfl)
 go_wp2_with fail
 have ow : (w2.alloc (.cells (bvs (List.replicate n 0)) 5)).ownsRow (w.heap.size + 1) 5 1 (.slice (some ⟨w2.heap.size, 0, none⟩) n n) (List.replicate n (0 : UInt8)).length ((List.replicate n (0 : UInt8)).map bv) := by
  have := World.ownsRow_lit (base := w.heap.size + 1) (e := 5) (size := 1) w2 (bvs (List.replicate n 0)) n Q2.out.size (by unfold maxLen; omega) (by simp [bvs_size])
  rw [List.length_replicate]
  exact this
 have QQ := Q2.out.step ((Below.refl w2.heap.size w2).alloc (Nat.le_refl _) (.cells (bvs (List.replicate n 0)) 5))
 have OW := Lib.hid ow
 have QW := Lib.hid QQ
 clear ow QQ
 go_ret
 exact ⟨_, rfl, HE.out ▸ OW.out, QW.out.bel⟩
end Go.Proofs.YthjbmggpleliaaaGreatDoor
