/- The walks of mantillaref7's Put at frames that may be: what is asked and answered; numbers. -/
import Derived.Test.YtipniobgijdlkaaMgsFrmRM
import Derived.Test.YtipniobgijdlkaaMgs10
import Derived.Test.YtipniobgijdlkaaMgs5
import Derived.Test.YtipniobgijdlkaaMgs22
namespace Go.Proofs.Ytipniobgijdlkaa
open Go.RowKit Go.Rw Frm Hdr
attribute [local go_sem ↓] ldFF stFF alFF
attribute [local go_sem] rldFF rstFF ralFF setRow_alloc_at setRow_alloc_past setRow_drew
set_option maxRecDepth 400000 in
set_option maxHeartbeats 2000000 in
theorem frput_26 (n d : Nat) (rs : List (Nat × Nat)) (i o : Nat) (fin : Bool) (dat cid tok : List UInt8) (ar ad ac at_ : Option Addr) (er ed ec et : Nat) (hrl : rs.length ≤ 1000000) (hm : mayB 26 n d rs.length (rsOk rs) i o fin dat.length cid.length tok.length = true) (w : World) (hr : Sr w (.slice ar rs.length er) rs) (hd : Sl w (.slice ad dat.length ed) dat) (hc : Sl w (.slice ac cid.length ec) cid) (ht : Sl w (.slice at_ tok.length et) tok) :
    Calls Try.prog 16 #[.agg (fvA 26 n d (.slice ar rs.length er) i o fin (.slice ad dat.length ed) (.slice ac cid.length ec) (.slice at_ tok.length et))] w fun e w' => ∃ v', e = .returned v' ∧ w'.ownsRow (w.heap.size + 1) 5 1 v' (Fr.put ⟨26, n, d, rs, i, o, fin, dat, cid, tok⟩).length ((Fr.put ⟨26, n, d, rs, i, o, fin, dat, cid, tok⟩).map bv) ∧ Below w.heap.size w w' := by
  obtain ⟨i0, hi0, hz0, hz1, hz2⟩ := info_parts info8
  have hm2 := hm
  have hpl : (decide (dat.length = 8) && plainB n d rs.length i o fin 0 cid.length tok.length) = true := hm2
  rw [Bool.and_eq_true, decide_eq_true_eq] at hpl
  have ld : dat.length ≤ 8 := by have := hpl.1; omega
  have hmay := fun W hs' => frmay_any 26 n d i o fin ar ad ac at_ rs.length dat.length cid.length tok.length er ed ec et rs hrl W hs'
  rw [hm2] at hmay
  have fc := fun (W : World) (b : Nat) (h : row? W b = some (fvA 26 n d (.slice ar rs.length er) i o fin (.slice ad dat.length ed) (.slice ac cid.length ec) (.slice at_ tok.length et))) => fv_cells h
  have hz : (fvA 26 n d (.slice ar rs.length er) i o fin (.slice ad dat.length ed) (.slice ac cid.length ec) (.slice at_ tok.length et)).size = 10 := rfl
  generalize fvA 26 n d (.slice ar rs.length er) i o fin (.slice ad dat.length ed) (.slice ac cid.length ec) (.slice at_ tok.length et) = F at *
  have P0 : PS w F (w.alloc (.cells F 28)) := ⟨row?_alloc_at _ _ _ _ rfl, (Below.refl _ _).alloc (Nat.le_refl _) _⟩
  have lf := rldFF (w.alloc (.cells F 28)) w.heap.size (by rw [P0.row, Option.map_some, hz])
  rw [P0.row] at lf
  have lf' : (loadAgg 28 (.pointer (some ⟨w.heap.size, 0, none⟩))).run Try.prog (w.alloc (.cells F 28)) = .ok (.agg F) (w.alloc (.cells F 28)) := lf
  have HMAY := Lib.hid hmay
  have FC := Lib.hid fc
  have HR := Lib.hid hr
  have HD := Lib.hid hd
  have HC := Lib.hid hc
  have HT := Lib.hid ht
  have Q0 := Lib.hid P0
  clear hmay fc lf hm hm2 P0 hr hd hc ht hpl
  go_enter Try.func16, Try.ntmps16
  go_wp2_with fail
  refine (HMAY.out _ (HR.out.below Q0.out.bel)).mono ?_
  rintro e w1 ⟨rfl, b1⟩
  have Q1 := Lib.hid (Q0.out.step b1)
  obtain ⟨c0, c1, c2, c3, c4, c5, c6, c7, c8, c9⟩ := FC.out _ _ Q1.out.row
  have hlt1 := row?_lt Q1.out.row
  clear b1 lf' Q0
  obtain ⟨q2, hq2⟩ : ∃ q2 : List UInt8, [26] = q2 := ⟨_, rfl⟩
  have kq2 : q2.length ≤ 1 := by rw [← hq2]; decide
  have o2 : (w1.alloc (.cells #[.int .u8 26] 5)).ownsRow (w.heap.size + 1) 5 1 (.slice (some ⟨w1.heap.size, 0, none⟩) 1 1) q2.length (q2.map bv) := by
    rw [← hq2]
    exact World.ownsRow_lit (base := w.heap.size + 1) (e := 5) (size := 1) w1 #[.int .u8 26] 1 Q1.out.size (by decide) rfl
  have O2 := Lib.hid o2
  have Hq2 := Lib.hid hq2
  have Q2 := Lib.hid (Q1.out.step ((Below.refl w1.heap.size w1).alloc (Nat.le_refl _) (.cells #[.int .u8 26] 5)))
  clear o2 hq2
  have SS := Lib.hid (HD.out.below Q2.out.bel)
  go_wp2_with (at_builtin; refine app_sl rfl _ _ 25 rfl (w.heap.size + 1) 5 i0 Try.underlying25 hi0 hz0 hz1 hz2 _ _ rfl O2.out _ dat rfl SS.out ?hl3 ?hb3 ?_)
  case hl3 => omega
  case hb3 => exact Q2.out.size
  intro v3 w3 o3 g3
  have Q3 := Lib.hid (Q2.out.grown g3 (fun k hk => (O2.out.lt k hk).1))
  obtain ⟨q3, hq3⟩ : ∃ q3, q2 ++ dat = q3 := ⟨_, rfl⟩
  have kq3 : q3.length ≤ 9 := by rw [← hq3]; simp only [List.length_append]; omega
  rw [← List.map_append, ← List.length_append, hq3] at o3
  have Hq3 := Lib.hid hq3
  have O3 := Lib.hid o3
  obtain ⟨a3, x3, rfl, -, -, -⟩ := id (Own.sl o3)
  clear o3 g3 hq3 Q2 O2 SS
  clear c0 c1 c2 c3 c4 c5 c6 c7 c8 c9
  obtain ⟨c0, c1, c2, c3, c4, c5, c6, c7, c8, c9⟩ := FC.out _ _ Q3.out.row
  have HE := Lib.hid (show q3 = Fr.put ⟨26, n, d, rs, i, o, fin, dat, cid, tok⟩ by
    rw [← Hq3.out, ← Hq2.out]; rfl)
  go_wp2_with fail
  go_ret
  exact ⟨_, rfl, HE.out ▸ O3.out, Q3.out.bel⟩
set_option maxRecDepth 400000 in
set_option maxHeartbeats 2000000 in
theorem frput_27 (n d : Nat) (rs : List (Nat × Nat)) (i o : Nat) (fin : Bool) (dat cid tok : List UInt8) (ar ad ac at_ : Option Addr) (er ed ec et : Nat) (hrl : rs.length ≤ 1000000) (hm : mayB 27 n d rs.length (rsOk rs) i o fin dat.length cid.length tok.length = true) (w : World) (hr : Sr w (.slice ar rs.length er) rs) (hd : Sl w (.slice ad dat.length ed) dat) (hc : Sl w (.slice ac cid.length ec) cid) (ht : Sl w (.slice at_ tok.length et) tok) :
    Calls Try.prog 16 #[.agg (fvA 27 n d (.slice ar rs.length er) i o fin (.slice ad dat.length ed) (.slice ac cid.length ec) (.slice at_ tok.length et))] w fun e w' => ∃ v', e = .returned v' ∧ w'.ownsRow (w.heap.size + 1) 5 1 v' (Fr.put ⟨27, n, d, rs, i, o, fin, dat, cid, tok⟩).length ((Fr.put ⟨27, n, d, rs, i, o, fin, dat, cid, tok⟩).map bv) ∧ Below w.heap.size w w' := by
  obtain ⟨i0, hi0, hz0, hz1, hz2⟩ := info_parts info8
  have hm2 := hm
  have hpl : (decide (dat.length = 8) && plainB n d rs.length i o fin 0 cid.length tok.length) = true := hm2
  rw [Bool.and_eq_true, decide_eq_true_eq] at hpl
  have ld : dat.length ≤ 8 := by have := hpl.1; omega
  have hmay := fun W hs' => frmay_any 27 n d i o fin ar ad ac at_ rs.length dat.length cid.length tok.length er ed ec et rs hrl W hs'
  rw [hm2] at hmay
  have fc := fun (W : World) (b : Nat) (h : row? W b = some (fvA 27 n d (.slice ar rs.length er) i o fin (.slice ad dat.length ed) (.slice ac cid.length ec) (.slice at_ tok.length et))) => fv_cells h
  have hz : (fvA 27 n d (.slice ar rs.length er) i o fin (.slice ad dat.length ed) (.slice ac cid.length ec) (.slice at_ tok.length et)).size = 10 := rfl
  generalize fvA 27 n d (.slice ar rs.length er) i o fin (.slice ad dat.length ed) (.slice ac cid.length ec) (.slice at_ tok.length et) = F at *
  have P0 : PS w F (w.alloc (.cells F 28)) := ⟨row?_alloc_at _ _ _ _ rfl, (Below.refl _ _).alloc (Nat.le_refl _) _⟩
  have lf := rldFF (w.alloc (.cells F 28)) w.heap.size (by rw [P0.row, Option.map_some, hz])
  rw [P0.row] at lf
  have lf' : (loadAgg 28 (.pointer (some ⟨w.heap.size, 0, none⟩))).run Try.prog (w.alloc (.cells F 28)) = .ok (.agg F) (w.alloc (.cells F 28)) := lf
  have HMAY := Lib.hid hmay
  have FC := Lib.hid fc
  have HR := Lib.hid hr
  have HD := Lib.hid hd
  have HC := Lib.hid hc
  have HT := Lib.hid ht
  have Q0 := Lib.hid P0
  clear hmay fc lf hm hm2 P0 hr hd hc ht hpl
  go_enter Try.func16, Try.ntmps16
  go_wp2_with fail
  refine (HMAY.out _ (HR.out.below Q0.out.bel)).mono ?_
  rintro e w1 ⟨rfl, b1⟩
  have Q1 := Lib.hid (Q0.out.step b1)
  obtain ⟨c0, c1, c2, c3, c4, c5, c6, c7, c8, c9⟩ := FC.out _ _ Q1.out.row
  have hlt1 := row?_lt Q1.out.row
  clear b1 lf' Q0
  obtain ⟨q2, hq2⟩ : ∃ q2 : List UInt8, [27] = q2 := ⟨_, rfl⟩
  have kq2 : q2.length ≤ 1 := by rw [← hq2]; decide
  have o2 : (w1.alloc (.cells #[.int .u8 27] 5)).ownsRow (w.heap.size + 1) 5 1 (.slice (some ⟨w1.heap.size, 0, none⟩) 1 1) q2.length (q2.map bv) := by
    rw [← hq2]
    exact World.ownsRow_lit (base := w.heap.size + 1) (e := 5) (size := 1) w1 #[.int .u8 27] 1 Q1.out.size (by decide) rfl
  have O2 := Lib.hid o2
  have Hq2 := Lib.hid hq2
  have Q2 := Lib.hid (Q1.out.step ((Below.refl w1.heap.size w1).alloc (Nat.le_refl _) (.cells #[.int .u8 27] 5)))
  clear o2 hq2
  have SS := Lib.hid (HD.out.below Q2.out.bel)
  go_wp2_with (at_builtin; refine app_sl rfl _ _ 25 rfl (w.heap.size + 1) 5 i0 Try.underlying25 hi0 hz0 hz1 hz2 _ _ rfl O2.out _ dat rfl SS.out ?hl3 ?hb3 ?_)
  case hl3 => omega
  case hb3 => exact Q2.out.size
  intro v3 w3 o3 g3
  have Q3 := Lib.hid (Q2.out.grown g3 (fun k hk => (O2.out.lt k hk).1))
  obtain ⟨q3, hq3⟩ : ∃ q3, q2 ++ dat = q3 := ⟨_, rfl⟩
  have kq3 : q3.length ≤ 9 := by rw [← hq3]; simp only [List.length_append]; omega
  rw [← List.map_append, ← List.length_append, hq3] at o3
  have Hq3 := Lib.hid hq3
  have O3 := Lib.hid o3
  obtain ⟨a3, x3, rfl, -, -, -⟩ := id (Own.sl o3)
  clear o3 g3 hq3 Q2 O2 SS
  clear c0 c1 c2 c3 c4 c5 c6 c7 c8 c9
  obtain ⟨c0, c1, c2, c3, c4, c5, c6, c7, c8, c9⟩ := FC.out _ _ Q3.out.row
  have HE := Lib.hid (show q3 = Fr.put ⟨27, n, d, rs, i, o, fin, dat, cid, tok⟩ by
    rw [← Hq3.out, ← Hq2.out]; rfl)
  go_wp2_with fail
  go_ret
  exact ⟨_, rfl, HE.out ▸ O3.out, Q3.out.bel⟩
set_option maxRecDepth 400000 in
set_option maxHeartbeats 2000000 in
theorem frput_16 (n d : Nat) (rs : List (Nat × Nat)) (i o : Nat) (fin : Bool) (dat cid tok : List UInt8) (ar ad ac at_ : Option Addr) (er ed ec et : Nat) (hrl : rs.length ≤ 1000000) (hm : mayB 16 n d rs.length (rsOk rs) i o fin dat.length cid.length tok.length = true) (w : World) (hr : Sr w (.slice ar rs.length er) rs) (hd : Sl w (.slice ad dat.length ed) dat) (hc : Sl w (.slice ac cid.length ec) cid) (ht : Sl w (.slice at_ tok.length et) tok) :
    Calls Try.prog 16 #[.agg (fvA 16 n d (.slice ar rs.length er) i o fin (.slice ad dat.length ed) (.slice ac cid.length ec) (.slice at_ tok.length et))] w fun e w' => ∃ v', e = .returned v' ∧ w'.ownsRow (w.heap.size + 1) 5 1 v' (Fr.put ⟨16, n, d, rs, i, o, fin, dat, cid, tok⟩).length ((Fr.put ⟨16, n, d, rs, i, o, fin, dat, cid, tok⟩).map bv) ∧ Below w.heap.size w w' := by
  obtain ⟨i0, hi0, hz0, hz1, hz2⟩ := info_parts info8
  have hm2 := hm
  have hpl : (decide (n ≤ 4611686018427387903) && plainB 0 d rs.length i o fin dat.length cid.length tok.length) = true := hm2
  rw [Bool.and_eq_true, decide_eq_true_eq] at hpl
  have hn' : n < 4611686018427387904 := by have := hpl.1; omega
  have hmay := fun W hs' => frmay_any 16 n d i o fin ar ad ac at_ rs.length dat.length cid.length tok.length er ed ec et rs hrl W hs'
  rw [hm2] at hmay
  have fc := fun (W : World) (b : Nat) (h : row? W b = some (fvA 16 n d (.slice ar rs.length er) i o fin (.slice ad dat.length ed) (.slice ac cid.length ec) (.slice at_ tok.length et))) => fv_cells h
  have hz : (fvA 16 n d (.slice ar rs.length er) i o fin (.slice ad dat.length ed) (.slice ac cid.length ec) (.slice at_ tok.length et)).size = 10 := rfl
  generalize fvA 16 n d (.slice ar rs.length er) i o fin (.slice ad dat.length ed) (.slice ac cid.length ec) (.slice at_ tok.length et) = F at *
  have P0 : PS w F (w.alloc (.cells F 28)) := ⟨row?_alloc_at _ _ _ _ rfl, (Below.refl _ _).alloc (Nat.le_refl _) _⟩
  have lf := rldFF (w.alloc (.cells F 28)) w.heap.size (by rw [P0.row, Option.map_some, hz])
  rw [P0.row] at lf
  have lf' : (loadAgg 28 (.pointer (some ⟨w.heap.size, 0, none⟩))).run Try.prog (w.alloc (.cells F 28)) = .ok (.agg F) (w.alloc (.cells F 28)) := lf
  have HMAY := Lib.hid hmay
  have FC := Lib.hid fc
  have HR := Lib.hid hr
  have HD := Lib.hid hd
  have HC := Lib.hid hc
  have HT := Lib.hid ht
  have Q0 := Lib.hid P0
  clear hmay fc lf hm hm2 P0 hr hd hc ht hpl
  go_enter Try.func16, Try.ntmps16
  go_wp2_with fail
  refine (HMAY.out _ (HR.out.below Q0.out.bel)).mono ?_
  rintro e w1 ⟨rfl, b1⟩
  have Q1 := Lib.hid (Q0.out.step b1)
  obtain ⟨c0, c1, c2, c3, c4, c5, c6, c7, c8, c9⟩ := FC.out _ _ Q1.out.row
  have hlt1 := row?_lt Q1.out.row
  clear b1 lf' Q0
  obtain ⟨q2, hq2⟩ : ∃ q2 : List UInt8, [16] = q2 := ⟨_, rfl⟩
  have kq2 : q2.length ≤ 1 := by rw [← hq2]; decide
  have o2 : (w1.alloc (.cells #[.int .u8 16] 5)).ownsRow (w.heap.size + 1) 5 1 (.slice (some ⟨w1.heap.size, 0, none⟩) 1 1) q2.length (q2.map bv) := by
    rw [← hq2]
    exact World.ownsRow_lit (base := w.heap.size + 1) (e := 5) (size := 1) w1 #[.int .u8 16] 1 Q1.out.size (by decide) rfl
  have O2 := Lib.hid o2
  have Hq2 := Lib.hid hq2
  have Q2 := Lib.hid (Q1.out.step ((Below.refl w1.heap.size w1).alloc (Nat.le_refl _) (.cells #[.int .u8 16] 5)))
  clear o2 hq2
  go_wp2_with fail
  refine (rput_any q2 n (by omega) (by omega) _ _ (Own.sl O2.out)).mono ?_
  rintro e w3 ⟨v3, rfl, o3, b3⟩
  obtain ⟨q3, hq3⟩ : ∃ q3, q2 ++ vin n (vlen n) = q3 := ⟨_, rfl⟩
  have kq3 : q3.length ≤ 9 := by rw [← hq3]; simp only [List.length_append, vin_length]; have := vlen_le n; omega
  rw [hq3] at o3
  have Hq3 := Lib.hid hq3
  have O3 := Lib.hid (own_lower o3 Q2.out.size)
  have Q3 := Lib.hid (Q2.out.step b3)
  obtain ⟨a3, x3, rfl, -, -, -⟩ := id (Own.sl o3)
  clear b3 o3 hq3 Q2 O2
  clear c0 c1 c2 c3 c4 c5 c6 c7 c8 c9
  obtain ⟨c0, c1, c2, c3, c4, c5, c6, c7, c8, c9⟩ := FC.out _ _ Q3.out.row
  have HE := Lib.hid (show q3 = Fr.put ⟨16, n, d, rs, i, o, fin, dat, cid, tok⟩ by
    rw [← Hq3.out, ← Hq2.out]; rfl)
  go_wp2_with fail
  go_ret
  exact ⟨_, rfl, HE.out ▸ O3.out, Q3.out.bel⟩
set_option maxRecDepth 400000 in
set_option maxHeartbeats 2000000 in
theorem frput_25 (n d : Nat) (rs : List (Nat × Nat)) (i o : Nat) (fin : Bool) (dat cid tok : List UInt8) (ar ad ac at_ : Option Addr) (er ed ec et : Nat) (hrl : rs.length ≤ 1000000) (hm : mayB 25 n d rs.length (rsOk rs) i o fin dat.length cid.length tok.length = true) (w : World) (hr : Sr w (.slice ar rs.length er) rs) (hd : Sl w (.slice ad dat.length ed) dat) (hc : Sl w (.slice ac cid.length ec) cid) (ht : Sl w (.slice at_ tok.length et) tok) :
    Calls Try.prog 16 #[.agg (fvA 25 n d (.slice ar rs.length er) i o fin (.slice ad dat.length ed) (.slice ac cid.length ec) (.slice at_ tok.length et))] w fun e w' => ∃ v', e = .returned v' ∧ w'.ownsRow (w.heap.size + 1) 5 1 v' (Fr.put ⟨25, n, d, rs, i, o, fin, dat, cid, tok⟩).length ((Fr.put ⟨25, n, d, rs, i, o, fin, dat, cid, tok⟩).map bv) ∧ Below w.heap.size w w' := by
  obtain ⟨i0, hi0, hz0, hz1, hz2⟩ := info_parts info8
  have hm2 := hm
  have hpl : (decide (n ≤ 4611686018427387903) && plainB 0 d rs.length i o fin dat.length cid.length tok.length) = true := hm2
  rw [Bool.and_eq_true, decide_eq_true_eq] at hpl
  have hn' : n < 4611686018427387904 := by have := hpl.1; omega
  have hmay := fun W hs' => frmay_any 25 n d i o fin ar ad ac at_ rs.length dat.length cid.length tok.length er ed ec et rs hrl W hs'
  rw [hm2] at hmay
  have fc := fun (W : World) (b : Nat) (h : row? W b = some (fvA 25 n d (.slice ar rs.length er) i o fin (.slice ad dat.length ed) (.slice ac cid.length ec) (.slice at_ tok.length et))) => fv_cells h
  have hz : (fvA 25 n d (.slice ar rs.length er) i o fin (.slice ad dat.length ed) (.slice ac cid.length ec) (.slice at_ tok.length et)).size = 10 := rfl
  generalize fvA 25 n d (.slice ar rs.length er) i o fin (.slice ad dat.length ed) (.slice ac cid.length ec) (.slice at_ tok.length et) = F at *
  have P0 : PS w F (w.alloc (.cells F 28)) := ⟨row?_alloc_at _ _ _ _ rfl, (Below.refl _ _).alloc (Nat.le_refl _) _⟩
  have lf := rldFF (w.alloc (.cells F 28)) w.heap.size (by rw [P0.row, Option.map_some, hz])
  rw [P0.row] at lf
  have lf' : (loadAgg 28 (.pointer (some ⟨w.heap.size, 0, none⟩))).run Try.prog (w.alloc (.cells F 28)) = .ok (.agg F) (w.alloc (.cells F 28)) := lf
  have HMAY := Lib.hid hmay
  have FC := Lib.hid fc
  have HR := Lib.hid hr
  have HD := Lib.hid hd
  have HC := Lib.hid hc
  have HT := Lib.hid ht
  have Q0 := Lib.hid P0
  clear hmay fc lf hm hm2 P0 hr hd hc ht hpl
  go_enter Try.func16, Try.ntmps16
  go_wp2_with fail
  refine (HMAY.out _ (HR.out.below Q0.out.bel)).mono ?_
  rintro e w1 ⟨rfl, b1⟩
  have Q1 := Lib.hid (Q0.out.step b1)
  obtain ⟨c0, c1, c2, c3, c4, c5, c6, c7, c8, c9⟩ := FC.out _ _ Q1.out.row
  have hlt1 := row?_lt Q1.out.row
  clear b1 lf' Q0
  obtain ⟨q2, hq2⟩ : ∃ q2 : List UInt8, [25] = q2 := ⟨_, rfl⟩
  have kq2 : q2.length ≤ 1 := by rw [← hq2]; decide
  have o2 : (w1.alloc (.cells #[.int .u8 25] 5)).ownsRow (w.heap.size + 1) 5 1 (.slice (some ⟨w1.heap.size, 0, none⟩) 1 1) q2.length (q2.map bv) := by
    rw [← hq2]
    exact World.ownsRow_lit (base := w.heap.size + 1) (e := 5) (size := 1) w1 #[.int .u8 25] 1 Q1.out.size (by decide) rfl
  have O2 := Lib.hid o2
  have Hq2 := Lib.hid hq2
  have Q2 := Lib.hid (Q1.out.step ((Below.refl w1.heap.size w1).alloc (Nat.le_refl _) (.cells #[.int .u8 25] 5)))
  clear o2 hq2
  go_wp2_with fail
  refine (rput_any q2 n (by omega) (by omega) _ _ (Own.sl O2.out)).mono ?_
  rintro e w3 ⟨v3, rfl, o3, b3⟩
  obtain ⟨q3, hq3⟩ : ∃ q3, q2 ++ vin n (vlen n) = q3 := ⟨_, rfl⟩
  have kq3 : q3.length ≤ 9 := by rw [← hq3]; simp only [List.length_append, vin_length]; have := vlen_le n; omega
  rw [hq3] at o3
  have Hq3 := Lib.hid hq3
  have O3 := Lib.hid (own_lower o3 Q2.out.size)
  have Q3 := Lib.hid (Q2.out.step b3)
  obtain ⟨a3, x3, rfl, -, -, -⟩ := id (Own.sl o3)
  clear b3 o3 hq3 Q2 O2
  clear c0 c1 c2 c3 c4 c5 c6 c7 c8 c9
  obtain ⟨c0, c1, c2, c3, c4, c5, c6, c7, c8, c9⟩ := FC.out _ _ Q3.out.row
  have HE := Lib.hid (show q3 = Fr.put ⟨25, n, d, rs, i, o, fin, dat, cid, tok⟩ by
    rw [← Hq3.out, ← Hq2.out]; rfl)
  go_wp2_with fail
  go_ret
  exact ⟨_, rfl, HE.out ▸ O3.out, Q3.out.bel⟩
end Go.Proofs.Ytipniobgijdlkaa
