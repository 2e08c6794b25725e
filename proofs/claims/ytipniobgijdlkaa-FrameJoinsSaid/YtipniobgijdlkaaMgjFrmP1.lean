/- The walks of package frame's Put at frames that may be: what is asked and answered; numbers. -/
import Derived.Test.YtipniobgijdlkaaMgjFrmMay
import Derived.Test.YtipniobgijdlkaaMgj7
import Derived.Test.YtipniobgijdlkaaLibP
namespace Go.Proofs.Ytipniobgijdlkaa
open Go.RowKit Go.Rw Frm Hdr
attribute [local go_sem ↓] ldFF stFF alFF
attribute [local go_sem] rldFF rstFF ralFF setRow_alloc_at setRow_alloc_past setRow_drew
set_option maxRecDepth 100000 in
set_option maxHeartbeats 2000000 in
theorem fput_26 (n d : Nat) (rs : List (Nat × Nat)) (i o : Nat) (fin : Bool) (dat cid tok : List UInt8) (ar ad ac at_ : Option Addr) (er ed ec et : Nat) (hm : mayB 26 n d rs.length (rsOk rs) i o fin dat.length cid.length tok.length = true) (w : World) (hr : Sr w (.slice ar rs.length er) rs) (hd : Sl w (.slice ad dat.length ed) dat) (hc : Sl w (.slice ac cid.length ec) cid) (ht : Sl w (.slice at_ tok.length et) tok) :
    Calls Try.prog 27 #[.agg (fvA 26 n d (.slice ar rs.length er) i o fin (.slice ad dat.length ed) (.slice ac cid.length ec) (.slice at_ tok.length et))] w fun e w' => ∃ v', e = .returned v' ∧ w'.ownsRow (w.heap.size + 1) 5 1 v' (Fr.put ⟨26, n, d, rs, i, o, fin, dat, cid, tok⟩).length ((Fr.put ⟨26, n, d, rs, i, o, fin, dat, cid, tok⟩).map bv) ∧ Below w.heap.size w w' := by
  obtain ⟨i0, hi0, hz0, hz1, hz2⟩ := info_parts info8
  have hm2 := hm
  have hpl : (decide (dat.length = 8) && plainB n d rs.length i o fin 0 cid.length tok.length) = true := hm2
  rw [Bool.and_eq_true, decide_eq_true_eq] at hpl
  have h8 := hpl.1
  have pb := plainB_true hpl.2
  have hnc : cid.length ≤ 1000000 := by omega
  have hnt : tok.length ≤ 1000000 := by omega
  have ld : dat.length ≤ 8 := by omega
  have hmay := fun W hs' => fmay_any 26 n d i o fin ar ad ac at_ rs.length dat.length cid.length tok.length er ed ec et rs hnc hnt W hs'
  rw [may_eq _ _ _ _ _ _ _ _ _ _ _ rsOk_pos, hm2] at hmay
  have fc := fun (W : World) (b : Nat) (h : row? W b = some (fvA 26 n d (.slice ar rs.length er) i o fin (.slice ad dat.length ed) (.slice ac cid.length ec) (.slice at_ tok.length et))) => fv_cells h
  have hz : (fvA 26 n d (.slice ar rs.length er) i o fin (.slice ad dat.length ed) (.slice ac cid.length ec) (.slice at_ tok.length et)).size = 10 := rfl
  generalize fvA 26 n d (.slice ar rs.length er) i o fin (.slice ad dat.length ed) (.slice ac cid.length ec) (.slice at_ tok.length et) = F at *
  have P0 : PS w F (w.alloc (.cells F 28)) := ⟨row?_alloc_at _ _ _ _ rfl, (Below.refl _ _).alloc (Nat.le_refl _) _⟩
  have lf := rldFF (w.alloc (.cells F 28)) w.heap.size (by rw [P0.row, Option.map_some, hz])
  rw [P0.row] at lf
  have lf' : (loadAgg 28 (.pointer (some ⟨w.heap.size, 0, none⟩))).run Try.prog (w.alloc (.cells F 28)) = .ok (.agg F) (w.alloc (.cells F 28)) := lf
  have HMAY := Lib.hid hmay
  have FC := Lib.hid fc
  have HR := Lib.hid hr
  have HD := Lib.hid hd
  have HC := Lib.hid hc
  have HT := Lib.hid ht
  have Q0 := Lib.hid P0
  clear hmay fc lf hm hm2 P0 hr hd hc ht hpl pb h8
  go_enter Try.func27, Try.ntmps27
  go_wp2_with fail
  refine (HMAY.out _ (HR.out.below Q0.out.bel)).mono ?_
  rintro e w1 ⟨rfl, b1⟩
  have Q1 := Lib.hid (Q0.out.step b1)
  obtain ⟨c0, c1, c2, c3, c4, c5, c6, c7, c8, c9⟩ := FC.out _ _ Q1.out.row
  clear b1 lf' Q0
  go_wp2_with fail
  refine (vput_any [] 26 (by simp) (by omega) _ _ (Sl.nil _)).mono ?_
  rintro e w2 ⟨v2, rfl, o2, b2⟩
  have e2 : ([] ++ vin 26 (vlen 26) : List UInt8) = [26] := by decide
  obtain ⟨q2, hq2⟩ : ∃ q2 : List UInt8, [26] = q2 := ⟨_, rfl⟩
  have kq2 : q2.length ≤ 1 := by rw [← hq2]; decide
  rw [e2, hq2] at o2
  have Hq2 := Lib.hid hq2
  have O2 := Lib.hid (own_lower o2 Q1.out.size)
  have Q2 := Lib.hid (Q1.out.step b2)
  obtain ⟨a2, x2, rfl, -, -, -⟩ := id (Own.sl o2)
  clear b2 o2 hq2 e2 Q1
  clear c0 c1 c2 c3 c4 c5 c6 c7 c8 c9
  obtain ⟨c0, c1, c2, c3, c4, c5, c6, c7, c8, c9⟩ := FC.out _ _ Q2.out.row
  have SS := Lib.hid (HD.out.below Q2.out.bel)
  go_wp2_with (at_builtin; refine app_sl rfl _ _ 25 rfl (w.heap.size + 1) 5 i0 Try.underlying25 hi0 hz0 hz1 hz2 _ _ rfl O2.out _ dat rfl SS.out ?hl3 ?hb3 ?_)
  case hl3 => omega
  case hb3 => exact Q2.out.size
  intro v3 w3 o3 g3
  have Q3 := Lib.hid (Q2.out.grown g3 (fun k hk => (O2.out.lt k hk).1))
  obtain ⟨q3, hq3⟩ : ∃ q3, q2 ++ dat = q3 := ⟨_, rfl⟩
  have kq3 : q3.length ≤ 9 := by rw [← hq3]; simp only [List.length_append]; omega
  rw [← List.map_append, ← List.length_append, hq3] at o3
  have Hq3 := Lib.hid hq3
  have O3 := Lib.hid o3
  obtain ⟨a3, x3, rfl, -, -, -⟩ := id (Own.sl o3)
  clear o3 g3 hq3 Q2 O2 SS
  clear c0 c1 c2 c3 c4 c5 c6 c7 c8 c9
  obtain ⟨c0, c1, c2, c3, c4, c5, c6, c7, c8, c9⟩ := FC.out _ _ Q3.out.row
  have HE := Lib.hid (show q3 = Fr.put ⟨26, n, d, rs, i, o, fin, dat, cid, tok⟩ by
    rw [← Hq3.out, ← Hq2.out]; rfl)
  go_wp2_with fail
  go_ret
  exact ⟨_, rfl, HE.out ▸ O3.out, Q3.out.bel⟩
set_option maxRecDepth 100000 in
set_option maxHeartbeats 2000000 in
theorem fput_27 (n d : Nat) (rs : List (Nat × Nat)) (i o : Nat) (fin : Bool) (dat cid tok : List UInt8) (ar ad ac at_ : Option Addr) (er ed ec et : Nat) (hm : mayB 27 n d rs.length (rsOk rs) i o fin dat.length cid.length tok.length = true) (w : World) (hr : Sr w (.slice ar rs.length er) rs) (hd : Sl w (.slice ad dat.length ed) dat) (hc : Sl w (.slice ac cid.length ec) cid) (ht : Sl w (.slice at_ tok.length et) tok) :
    Calls Try.prog 27 #[.agg (fvA 27 n d (.slice ar rs.length er) i o fin (.slice ad dat.length ed) (.slice ac cid.length ec) (.slice at_ tok.length et))] w fun e w' => ∃ v', e = .returned v' ∧ w'.ownsRow (w.heap.size + 1) 5 1 v' (Fr.put ⟨27, n, d, rs, i, o, fin, dat, cid, tok⟩).length ((Fr.put ⟨27, n, d, rs, i, o, fin, dat, cid, tok⟩).map bv) ∧ Below w.heap.size w w' := by
  obtain ⟨i0, hi0, hz0, hz1, hz2⟩ := info_parts info8
  have hm2 := hm
  have hpl : (decide (dat.length = 8) && plainB n d rs.length i o fin 0 cid.length tok.length) = true := hm2
  rw [Bool.and_eq_true, decide_eq_true_eq] at hpl
  have h8 := hpl.1
  have pb := plainB_true hpl.2
  have hnc : cid.length ≤ 1000000 := by omega
  have hnt : tok.length ≤ 1000000 := by omega
  have ld : dat.length ≤ 8 := by omega
  have hmay := fun W hs' => fmay_any 27 n d i o fin ar ad ac at_ rs.length dat.length cid.length tok.length er ed ec et rs hnc hnt W hs'
  rw [may_eq _ _ _ _ _ _ _ _ _ _ _ rsOk_pos, hm2] at hmay
  have fc := fun (W : World) (b : Nat) (h : row? W b = some (fvA 27 n d (.slice ar rs.length er) i o fin (.slice ad dat.length ed) (.slice ac cid.length ec) (.slice at_ tok.length et))) => fv_cells h
  have hz : (fvA 27 n d (.slice ar rs.length er) i o fin (.slice ad dat.length ed) (.slice ac cid.length ec) (.slice at_ tok.length et)).size = 10 := rfl
  generalize fvA 27 n d (.slice ar rs.length er) i o fin (.slice ad dat.length ed) (.slice ac cid.length ec) (.slice at_ tok.length et) = F at *
  have P0 : PS w F (w.alloc (.cells F 28)) := ⟨row?_alloc_at _ _ _ _ rfl, (Below.refl _ _).alloc (Nat.le_refl _) _⟩
  have lf := rldFF (w.alloc (.cells F 28)) w.heap.size (by rw [P0.row, Option.map_some, hz])
  rw [P0.row] at lf
  have lf' : (loadAgg 28 (.pointer (some ⟨w.heap.size, 0, none⟩))).run Try.prog (w.alloc (.cells F 28)) = .ok (.agg F) (w.alloc (.cells F 28)) := lf
  have HMAY := Lib.hid hmay
  have FC := Lib.hid fc
  have HR := Lib.hid hr
  have HD := Lib.hid hd
  have HC := Lib.hid hc
  have HT := Lib.hid ht
  have Q0 := Lib.hid P0
  clear hmay fc lf hm hm2 P0 hr hd hc ht hpl pb h8
  go_enter Try.func27, Try.ntmps27
  go_wp2_with fail
  refine (HMAY.out _ (HR.out.below Q0.out.bel)).mono ?_
  rintro e w1 ⟨rfl, b1⟩
  have Q1 := Lib.hid (Q0.out.step b1)
  obtain ⟨c0, c1, c2, c3, c4, c5, c6, c7, c8, c9⟩ := FC.out _ _ Q1.out.row
  clear b1 lf' Q0
  go_wp2_with fail
  refine (vput_any [] 27 (by simp) (by omega) _ _ (Sl.nil _)).mono ?_
  rintro e w2 ⟨v2, rfl, o2, b2⟩
  have e2 : ([] ++ vin 27 (vlen 27) : List UInt8) = [27] := by decide
  obtain ⟨q2, hq2⟩ : ∃ q2 : List UInt8, [27] = q2 := ⟨_, rfl⟩
  have kq2 : q2.length ≤ 1 := by rw [← hq2]; decide
  rw [e2, hq2] at o2
  have Hq2 := Lib.hid hq2
  have O2 := Lib.hid (own_lower o2 Q1.out.size)
  have Q2 := Lib.hid (Q1.out.step b2)
  obtain ⟨a2, x2, rfl, -, -, -⟩ := id (Own.sl o2)
  clear b2 o2 hq2 e2 Q1
  clear c0 c1 c2 c3 c4 c5 c6 c7 c8 c9
  obtain ⟨c0, c1, c2, c3, c4, c5, c6, c7, c8, c9⟩ := FC.out _ _ Q2.out.row
  have SS := Lib.hid (HD.out.below Q2.out.bel)
  go_wp2_with (at_builtin; refine app_sl rfl _ _ 25 rfl (w.heap.size + 1) 5 i0 Try.underlying25 hi0 hz0 hz1 hz2 _ _ rfl O2.out _ dat rfl SS.out ?hl3 ?hb3 ?_)
  case hl3 => omega
  case hb3 => exact Q2.out.size
  intro v3 w3 o3 g3
  have Q3 := Lib.hid (Q2.out.grown g3 (fun k hk => (O2.out.lt k hk).1))
  obtain ⟨q3, hq3⟩ : ∃ q3, q2 ++ dat = q3 := ⟨_, rfl⟩
  have kq3 : q3.length ≤ 9 := by rw [← hq3]; simp only [List.length_append]; omega
  rw [← List.map_append, ← List.length_append, hq3] at o3
  have Hq3 := Lib.hid hq3
  have O3 := Lib.hid o3
  obtain ⟨a3, x3, rfl, -, -, -⟩ := id (Own.sl o3)
  clear o3 g3 hq3 Q2 O2 SS
  clear c0 c1 c2 c3 c4 c5 c6 c7 c8 c9
  obtain ⟨c0, c1, c2, c3, c4, c5, c6, c7, c8, c9⟩ := FC.out _ _ Q3.out.row
  have HE := Lib.hid (show q3 = Fr.put ⟨27, n, d, rs, i, o, fin, dat, cid, tok⟩ by
    rw [← Hq3.out, ← Hq2.out]; rfl)
  go_wp2_with fail
  go_ret
  exact ⟨_, rfl, HE.out ▸ O3.out, Q3.out.bel⟩
set_option maxRecDepth 100000 in
set_option maxHeartbeats 2000000 in
theorem fput_16 (n d : Nat) (rs : List (Nat × Nat)) (i o : Nat) (fin : Bool) (dat cid tok : List UInt8) (ar ad ac at_ : Option Addr) (er ed ec et : Nat) (hm : mayB 16 n d rs.length (rsOk rs) i o fin dat.length cid.length tok.length = true) (w : World) (hr : Sr w (.slice ar rs.length er) rs) (hd : Sl w (.slice ad dat.length ed) dat) (hc : Sl w (.slice ac cid.length ec) cid) (ht : Sl w (.slice at_ tok.length et) tok) :
    Calls Try.prog 27 #[.agg (fvA 16 n d (.slice ar rs.length er) i o fin (.slice ad dat.length ed) (.slice ac cid.length ec) (.slice at_ tok.length et))] w fun e w' => ∃ v', e = .returned v' ∧ w'.ownsRow (w.heap.size + 1) 5 1 v' (Fr.put ⟨16, n, d, rs, i, o, fin, dat, cid, tok⟩).length ((Fr.put ⟨16, n, d, rs, i, o, fin, dat, cid, tok⟩).map bv) ∧ Below w.heap.size w w' := by
  obtain ⟨i0, hi0, hz0, hz1, hz2⟩ := info_parts info8
  have hm2 := hm
  have hpl : (decide (n ≤ 4611686018427387903) && plainB 0 d rs.length i o fin dat.length cid.length tok.length) = true := hm2
  rw [Bool.and_eq_true, decide_eq_true_eq] at hpl
  have hn := hpl.1
  have pb := plainB_true hpl.2
  have hnc : cid.length ≤ 1000000 := by omega
  have hnt : tok.length ≤ 1000000 := by omega
  have hn' : n < 4611686018427387904 := by omega
  have hmay := fun W hs' => fmay_any 16 n d i o fin ar ad ac at_ rs.length dat.length cid.length tok.length er ed ec et rs hnc hnt W hs'
  rw [may_eq _ _ _ _ _ _ _ _ _ _ _ rsOk_pos, hm2] at hmay
  have fc := fun (W : World) (b : Nat) (h : row? W b = some (fvA 16 n d (.slice ar rs.length er) i o fin (.slice ad dat.length ed) (.slice ac cid.length ec) (.slice at_ tok.length et))) => fv_cells h
  have hz : (fvA 16 n d (.slice ar rs.length er) i o fin (.slice ad dat.length ed) (.slice ac cid.length ec) (.slice at_ tok.length et)).size = 10 := rfl
  generalize fvA 16 n d (.slice ar rs.length er) i o fin (.slice ad dat.length ed) (.slice ac cid.length ec) (.slice at_ tok.length et) = F at *
  have P0 : PS w F (w.alloc (.cells F 28)) := ⟨row?_alloc_at _ _ _ _ rfl, (Below.refl _ _).alloc (Nat.le_refl _) _⟩
  have lf := rldFF (w.alloc (.cells F 28)) w.heap.size (by rw [P0.row, Option.map_some, hz])
  rw [P0.row] at lf
  have lf' : (loadAgg 28 (.pointer (some ⟨w.heap.size, 0, none⟩))).run Try.prog (w.alloc (.cells F 28)) = .ok (.agg F) (w.alloc (.cells F 28)) := lf
  have HMAY := Lib.hid hmay
  have FC := Lib.hid fc
  have HR := Lib.hid hr
  have HD := Lib.hid hd
  have HC := Lib.hid hc
  have HT := Lib.hid ht
  have Q0 := Lib.hid P0
  clear hmay fc lf hm hm2 P0 hr hd hc ht hpl pb hn
  go_enter Try.func27, Try.ntmps27
  go_wp2_with fail
  refine (HMAY.out _ (HR.out.below Q0.out.bel)).mono ?_
  rintro e w1 ⟨rfl, b1⟩
  have Q1 := Lib.hid (Q0.out.step b1)
  obtain ⟨c0, c1, c2, c3, c4, c5, c6, c7, c8, c9⟩ := FC.out _ _ Q1.out.row
  clear b1 lf' Q0
  go_wp2_with fail
  refine (vput_any [] 16 (by simp) (by omega) _ _ (Sl.nil _)).mono ?_
  rintro e w2 ⟨v2, rfl, o2, b2⟩
  have e2 : ([] ++ vin 16 (vlen 16) : List UInt8) = [16] := by decide
  obtain ⟨q2, hq2⟩ : ∃ q2 : List UInt8, [16] = q2 := ⟨_, rfl⟩
  have kq2 : q2.length ≤ 1 := by rw [← hq2]; decide
  rw [e2, hq2] at o2
  have Hq2 := Lib.hid hq2
  have O2 := Lib.hid (own_lower o2 Q1.out.size)
  have Q2 := Lib.hid (Q1.out.step b2)
  obtain ⟨a2, x2, rfl, -, -, -⟩ := id (Own.sl o2)
  clear b2 o2 hq2 e2 Q1
  clear c0 c1 c2 c3 c4 c5 c6 c7 c8 c9
  obtain ⟨c0, c1, c2, c3, c4, c5, c6, c7, c8, c9⟩ := FC.out _ _ Q2.out.row
  go_wp2_with fail
  refine (vput_any q2 n (by omega) (by omega) _ _ (Own.sl O2.out)).mono ?_
  rintro e w3 ⟨v3, rfl, o3, b3⟩
  obtain ⟨q3, hq3⟩ : ∃ q3, q2 ++ vin n (vlen n) = q3 := ⟨_, rfl⟩
  have kq3 : q3.length ≤ 9 := by rw [← hq3]; simp only [List.length_append, vin_length]; have := vlen_le n; omega
  rw [hq3] at o3
  have Hq3 := Lib.hid hq3
  have O3 := Lib.hid (own_lower o3 Q2.out.size)
  have Q3 := Lib.hid (Q2.out.step b3)
  obtain ⟨a3, x3, rfl, -, -, -⟩ := id (Own.sl o3)
  clear b3 o3 hq3 Q2 O2
  clear c0 c1 c2 c3 c4 c5 c6 c7 c8 c9
  obtain ⟨c0, c1, c2, c3, c4, c5, c6, c7, c8, c9⟩ := FC.out _ _ Q3.out.row
  have HE := Lib.hid (show q3 = Fr.put ⟨16, n, d, rs, i, o, fin, dat, cid, tok⟩ by
    rw [← Hq3.out, ← Hq2.out]; rfl)
  go_wp2_with fail
  go_ret
  exact ⟨_, rfl, HE.out ▸ O3.out, Q3.out.bel⟩
set_option maxRecDepth 100000 in
set_option maxHeartbeats 2000000 in
theorem fput_25 (n d : Nat) (rs : List (Nat × Nat)) (i o : Nat) (fin : Bool) (dat cid tok : List UInt8) (ar ad ac at_ : Option Addr) (er ed ec et : Nat) (hm : mayB 25 n d rs.length (rsOk rs) i o fin dat.length cid.length tok.length = true) (w : World) (hr : Sr w (.slice ar rs.length er) rs) (hd : Sl w (.slice ad dat.length ed) dat) (hc : Sl w (.slice ac cid.length ec) cid) (ht : Sl w (.slice at_ tok.length et) tok) :
    Calls Try.prog 27 #[.agg (fvA 25 n d (.slice ar rs.length er) i o fin (.slice ad dat.length ed) (.slice ac cid.length ec) (.slice at_ tok.length et))] w fun e w' => ∃ v', e = .returned v' ∧ w'.ownsRow (w.heap.size + 1) 5 1 v' (Fr.put ⟨25, n, d, rs, i, o, fin, dat, cid, tok⟩).length ((Fr.put ⟨25, n, d, rs, i, o, fin, dat, cid, tok⟩).map bv) ∧ Below w.heap.size w w' := by
  obtain ⟨i0, hi0, hz0, hz1, hz2⟩ := info_parts info8
  have hm2 := hm
  have hpl : (decide (n ≤ 4611686018427387903) && plainB 0 d rs.length i o fin dat.length cid.length tok.length) = true := hm2
  rw [Bool.and_eq_true, decide_eq_true_eq] at hpl
  have hn := hpl.1
  have pb := plainB_true hpl.2
  have hnc : cid.length ≤ 1000000 := by omega
  have hnt : tok.length ≤ 1000000 := by omega
  have hn' : n < 4611686018427387904 := by omega
  have hmay := fun W hs' => fmay_any 25 n d i o fin ar ad ac at_ rs.length dat.length cid.length tok.length er ed ec et rs hnc hnt W hs'
  rw [may_eq _ _ _ _ _ _ _ _ _ _ _ rsOk_pos, hm2] at hmay
  have fc := fun (W : World) (b : Nat) (h : row? W b = some (fvA 25 n d (.slice ar rs.length er) i o fin (.slice ad dat.length ed) (.slice ac cid.length ec) (.slice at_ tok.length et))) => fv_cells h
  have hz : (fvA 25 n d (.slice ar rs.length er) i o fin (.slice ad dat.length ed) (.slice ac cid.length ec) (.slice at_ tok.length et)).size = 10 := rfl
  generalize fvA 25 n d (.slice ar rs.length er) i o fin (.slice ad dat.length ed) (.slice ac cid.length ec) (.slice at_ tok.length et) = F at *
  have P0 : PS w F (w.alloc (.cells F 28)) := ⟨row?_alloc_at _ _ _ _ rfl, (Below.refl _ _).alloc (Nat.le_refl _) _⟩
  have lf := rldFF (w.alloc (.cells F 28)) w.heap.size (by rw [P0.row, Option.map_some, hz])
  rw [P0.row] at lf
  have lf' : (loadAgg 28 (.pointer (some ⟨w.heap.size, 0, none⟩))).run Try.prog (w.alloc (.cells F 28)) = .ok (.agg F) (w.alloc (.cells F 28)) := lf
  have HMAY := Lib.hid hmay
  have FC := Lib.hid fc
  have HR := Lib.hid hr
  have HD := Lib.hid hd
  have HC := Lib.hid hc
  have HT := Lib.hid ht
  have Q0 := Lib.hid P0
  clear hmay fc lf hm hm2 P0 hr hd hc ht hpl pb hn
  go_enter Try.func27, Try.ntmps27
  go_wp2_with fail
  refine (HMAY.out _ (HR.out.below Q0.out.bel)).mono ?_
  rintro e w1 ⟨rfl, b1⟩
  have Q1 := Lib.hid (Q0.out.step b1)
  obtain ⟨c0, c1, c2, c3, c4, c5, c6, c7, c8, c9⟩ := FC.out _ _ Q1.out.row
  clear b1 lf' Q0
  go_wp2_with fail
  refine (vput_any [] 25 (by simp) (by omega) _ _ (Sl.nil _)).mono ?_
  rintro e w2 ⟨v2, rfl, o2, b2⟩
  have e2 : ([] ++ vin 25 (vlen 25) : List UInt8) = [25] := by decide
  obtain ⟨q2, hq2⟩ : ∃ q2 : List UInt8, [25] = q2 := ⟨_, rfl⟩
  have kq2 : q2.length ≤ 1 := by rw [← hq2]; decide
  rw [e2, hq2] at o2
  have Hq2 := Lib.hid hq2
  have O2 := Lib.hid (own_lower o2 Q1.out.size)
  have Q2 := Lib.hid (Q1.out.step b2)
  obtain ⟨a2, x2, rfl, -, -, -⟩ := id (Own.sl o2)
  clear b2 o2 hq2 e2 Q1
  clear c0 c1 c2 c3 c4 c5 c6 c7 c8 c9
  obtain ⟨c0, c1, c2, c3, c4, c5, c6, c7, c8, c9⟩ := FC.out _ _ Q2.out.row
  go_wp2_with fail
  refine (vput_any q2 n (by omega) (by omega) _ _ (Own.sl O2.out)).mono ?_
  rintro e w3 ⟨v3, rfl, o3, b3⟩
  obtain ⟨q3, hq3⟩ : ∃ q3, q2 ++ vin n (vlen n) = q3 := ⟨_, rfl⟩
  have kq3 : q3.length ≤ 9 := by rw [← hq3]; simp only [List.length_append, vin_length]; have := vlen_le n; omega
  rw [hq3] at o3
  have Hq3 := Lib.hid hq3
  have O3 := Lib.hid (own_lower o3 Q2.out.size)
  have Q3 := Lib.hid (Q2.out.step b3)
  obtain ⟨a3, x3, rfl, -, -, -⟩ := id (Own.sl o3)
  clear b3 o3 hq3 Q2 O2
  clear c0 c1 c2 c3 c4 c5 c6 c7 c8 c9
  obtain ⟨c0, c1, c2, c3, c4, c5, c6, c7, c8, c9⟩ := FC.out _ _ Q3.out.row
  have HE := Lib.hid (show q3 = Fr.put ⟨25, n, d, rs, i, o, fin, dat, cid, tok⟩ by
    rw [← Hq3.out, ← Hq2.out]; rfl)
  go_wp2_with fail
  go_ret
  exact ⟨_, rfl, HE.out ▸ O3.out, Q3.out.bel⟩
end Go.Proofs.Ytipniobgijdlkaa
