/- The walks of mantillaref7's Put at frames that may be: bare ones; padding. -/
import Derived.Test.YtipniobgijdlkaaMgsFrmRM
import Derived.Test.YtipniobgijdlkaaMgs10
import Derived.Test.YtipniobgijdlkaaMgs5
import Derived.Test.YtipniobgijdlkaaMgs22
import Derived.Test.YtipniobgijdlkaaMgsFrmP2
namespace Go.Proofs.Ytipniobgijdlkaa
open Go.RowKit Go.Rw Frm Hdr
attribute [local go_sem ↓] ldFF stFF alFF
attribute [local go_sem] rldFF rstFF ralFF setRow_alloc_at setRow_alloc_past setRow_drew
set_option maxRecDepth 400000 in
set_option maxHeartbeats 2000000 in
theorem frput_1 (n d : Nat) (rs : List (Nat × Nat)) (i o : Nat) (fin : Bool) (dat cid tok : List UInt8) (ar ad ac at_ : Option Addr) (er ed ec et : Nat) (hrl : rs.length ≤ 1000000) (hm : mayB 1 n d rs.length (rsOk rs) i o fin dat.length cid.length tok.length = true) (w : World) (hr : Sr w (.slice ar rs.length er) rs) (hd : Sl w (.slice ad dat.length ed) dat) (hc : Sl w (.slice ac cid.length ec) cid) (ht : Sl w (.slice at_ tok.length et) tok) :
    Calls Try.prog 16 #[.agg (fvA 1 n d (.slice ar rs.length er) i o fin (.slice ad dat.length ed) (.slice ac cid.length ec) (.slice at_ tok.length et))] w fun e w' => ∃ v', e = .returned v' ∧ w'.ownsRow (w.heap.size + 1) 5 1 v' (Fr.put ⟨1, n, d, rs, i, o, fin, dat, cid, tok⟩).length ((Fr.put ⟨1, n, d, rs, i, o, fin, dat, cid, tok⟩).map bv) ∧ Below w.heap.size w w' := by
  obtain ⟨i0, hi0, hz0, hz1, hz2⟩ := info_parts info8
  have hm2 := hm
  have dummy := True.intro
  have hmay := fun W hs' => frmay_any 1 n d i o fin ar ad ac at_ rs.length dat.length cid.length tok.length er ed ec et rs hrl W hs'
  rw [hm2] at hmay
  have fc := fun (W : World) (b : Nat) (h : row? W b = some (fvA 1 n d (.slice ar rs.length er) i o fin (.slice ad dat.length ed) (.slice ac cid.length ec) (.slice at_ tok.length et))) => fv_cells h
  have hz : (fvA 1 n d (.slice ar rs.length er) i o fin (.slice ad dat.length ed) (.slice ac cid.length ec) (.slice at_ tok.length et)).size = 10 := rfl
  generalize fvA 1 n d (.slice ar rs.length er) i o fin (.slice ad dat.length ed) (.slice ac cid.length ec) (.slice at_ tok.length et) = F at *
  have P0 : PS w F (w.alloc (.cells F 28)) := ⟨row?_alloc_at _ _ _ _ rfl, (Below.refl _ _).alloc (Nat.le_refl _) _⟩
  have lf := rldFF (w.alloc (.cells F 28)) w.heap.size (by rw [P0.row, Option.map_some, hz])
  rw [P0.row] at lf
  have lf' : (loadAgg 28 (.pointer (some ⟨w.heap.size, 0, none⟩))).run Try.prog (w.alloc (.cells F 28)) = .ok (.agg F) (w.alloc (.cells F 28)) := lf
  have HMAY := Lib.hid hmay
  have FC := Lib.hid fc
  have HR := Lib.hid hr
  have HD := Lib.hid hd
  have HC := Lib.hid hc
  have HT := Lib.hid ht
  have Q0 := Lib.hid P0
  clear hmay fc lf hm hm2 P0 hr hd hc ht dummy
  go_enter Try.func16, Try.ntmps16
  go_wp2_with fail
  refine (HMAY.out _ (HR.out.below Q0.out.bel)).mono ?_
  rintro e w1 ⟨rfl, b1⟩
  have Q1 := Lib.hid (Q0.out.step b1)
  obtain ⟨c0, c1, c2, c3, c4, c5, c6, c7, c8, c9⟩ := FC.out _ _ Q1.out.row
  have hlt1 := row?_lt Q1.out.row
  clear b1 lf' Q0
  obtain ⟨q2, hq2⟩ : ∃ q2 : List UInt8, [1] = q2 := ⟨_, rfl⟩
  have kq2 : q2.length ≤ 1 := by rw [← hq2]; decide
  have o2 : (w1.alloc (.cells #[.int .u8 1] 5)).ownsRow (w.heap.size + 1) 5 1 (.slice (some ⟨w1.heap.size, 0, none⟩) 1 1) q2.length (q2.map bv) := by
    rw [← hq2]
    exact World.ownsRow_lit (base := w.heap.size + 1) (e := 5) (size := 1) w1 #[.int .u8 1] 1 Q1.out.size (by decide) rfl
  have O2 := Lib.hid o2
  have Hq2 := Lib.hid hq2
  have Q2 := Lib.hid (Q1.out.step ((Below.refl w1.heap.size w1).alloc (Nat.le_refl _) (.cells #[.int .u8 1] 5)))
  clear o2 hq2
  have HE := Lib.hid (show q2 = Fr.put ⟨1, n, d, rs, i, o, fin, dat, cid, tok⟩ by
    rw [← Hq2.out]; rfl)
  go_wp2_with fail
  go_ret
  exact ⟨_, rfl, HE.out ▸ O2.out, Q2.out.bel⟩
set_option maxRecDepth 400000 in
set_option maxHeartbeats 2000000 in
theorem frput_30 (n d : Nat) (rs : List (Nat × Nat)) (i o : Nat) (fin : Bool) (dat cid tok : List UInt8) (ar ad ac at_ : Option Addr) (er ed ec et : Nat) (hrl : rs.length ≤ 1000000) (hm : mayB 30 n d rs.length (rsOk rs) i o fin dat.length cid.length tok.length = true) (w : World) (hr : Sr w (.slice ar rs.length er) rs) (hd : Sl w (.slice ad dat.length ed) dat) (hc : Sl w (.slice ac cid.length ec) cid) (ht : Sl w (.slice at_ tok.length et) tok) :
    Calls Try.prog 16 #[.agg (fvA 30 n d (.slice ar rs.length er) i o fin (.slice ad dat.length ed) (.slice ac cid.length ec) (.slice at_ tok.length et))] w fun e w' => ∃ v', e = .returned v' ∧ w'.ownsRow (w.heap.size + 1) 5 1 v' (Fr.put ⟨30, n, d, rs, i, o, fin, dat, cid, tok⟩).length ((Fr.put ⟨30, n, d, rs, i, o, fin, dat, cid, tok⟩).map bv) ∧ Below w.heap.size w w' := by
  obtain ⟨i0, hi0, hz0, hz1, hz2⟩ := info_parts info8
  have hm2 := hm
  have dummy := True.intro
  have hmay := fun W hs' => frmay_any 30 n d i o fin ar ad ac at_ rs.length dat.length cid.length tok.length er ed ec et rs hrl W hs'
  rw [hm2] at hmay
  have fc := fun (W : World) (b : Nat) (h : row? W b = some (fvA 30 n d (.slice ar rs.length er) i o fin (.slice ad dat.length ed) (.slice ac cid.length ec) (.slice at_ tok.length et))) => fv_cells h
  have hz : (fvA 30 n d (.slice ar rs.length er) i o fin (.slice ad dat.length ed) (.slice ac cid.length ec) (.slice at_ tok.length et)).size = 10 := rfl
  generalize fvA 30 n d (.slice ar rs.length er) i o fin (.slice ad dat.length ed) (.slice ac cid.length ec) (.slice at_ tok.length et) = F at *
  have P0 : PS w F (w.alloc (.cells F 28)) := ⟨row?_alloc_at _ _ _ _ rfl, (Below.refl _ _).alloc (Nat.le_refl _) _⟩
  have lf := rldFF (w.alloc (.cells F 28)) w.heap.size (by rw [P0.row, Option.map_some, hz])
  rw [P0.row] at lf
  have lf' : (loadAgg 28 (.pointer (some ⟨w.heap.size, 0, none⟩))).run Try.prog (w.alloc (.cells F 28)) = .ok (.agg F) (w.alloc (.cells F 28)) := lf
  have HMAY := Lib.hid hmay
  have FC := Lib.hid fc
  have HR := Lib.hid hr
  have HD := Lib.hid hd
  have HC := Lib.hid hc
  have HT := Lib.hid ht
  have Q0 := Lib.hid P0
  clear hmay fc lf hm hm2 P0 hr hd hc ht dummy
  go_enter Try.func16, Try.ntmps16
  go_wp2_with fail
  refine (HMAY.out _ (HR.out.below Q0.out.bel)).mono ?_
  rintro e w1 ⟨rfl, b1⟩
  have Q1 := Lib.hid (Q0.out.step b1)
  obtain ⟨c0, c1, c2, c3, c4, c5, c6, c7, c8, c9⟩ := FC.out _ _ Q1.out.row
  have hlt1 := row?_lt Q1.out.row
  clear b1 lf' Q0
  obtain ⟨q2, hq2⟩ : ∃ q2 : List UInt8, [30] = q2 := ⟨_, rfl⟩
  have kq2 : q2.length ≤ 1 := by rw [← hq2]; decide
  have o2 : (w1.alloc (.cells #[.int .u8 30] 5)).ownsRow (w.heap.size + 1) 5 1 (.slice (some ⟨w1.heap.size, 0, none⟩) 1 1) q2.length (q2.map bv) := by
    rw [← hq2]
    exact World.ownsRow_lit (base := w.heap.size + 1) (e := 5) (size := 1) w1 #[.int .u8 30] 1 Q1.out.size (by decide) rfl
  have O2 := Lib.hid o2
  have Hq2 := Lib.hid hq2
  have Q2 := Lib.hid (Q1.out.step ((Below.refl w1.heap.size w1).alloc (Nat.le_refl _) (.cells #[.int .u8 30] 5)))
  clear o2 hq2
  have HE := Lib.hid (show q2 = Fr.put ⟨30, n, d, rs, i, o, fin, dat, cid, tok⟩ by
    rw [← Hq2.out]; rfl)
  go_wp2_with fail
  go_ret
  exact ⟨_, rfl, HE.out ▸ O2.out, Q2.out.bel⟩
set_option maxRecDepth 400000 in
set_option maxHeartbeats 2000000 in
theorem frput_0 (n d : Nat) (rs : List (Nat × Nat)) (i o : Nat) (fin : Bool) (dat cid tok : List UInt8) (ar ad ac at_ : Option Addr) (er ed ec et : Nat) (hrl : rs.length ≤ 1000000) (hm : mayB 0 n d rs.length (rsOk rs) i o fin dat.length cid.length tok.length = true) (w : World) (hr : Sr w (.slice ar rs.length er) rs) (hd : Sl w (.slice ad dat.length ed) dat) (hc : Sl w (.slice ac cid.length ec) cid) (ht : Sl w (.slice at_ tok.length et) tok) :
    Calls Try.prog 16 #[.agg (fvA 0 n d (.slice ar rs.length er) i o fin (.slice ad dat.length ed) (.slice ac cid.length ec) (.slice at_ tok.length et))] w fun e w' => ∃ v', e = .returned v' ∧ w'.ownsRow (w.heap.size + 1) 5 1 v' (Fr.put ⟨0, n, d, rs, i, o, fin, dat, cid, tok⟩).length ((Fr.put ⟨0, n, d, rs, i, o, fin, dat, cid, tok⟩).map bv) ∧ Below w.heap.size w w' := by
  obtain ⟨i0, hi0, hz0, hz1, hz2⟩ := info_parts info8
  have hm2 := hm
  have hpl : (decide (1 ≤ n ∧ n ≤ 16384) && plainB 0 d rs.length i o fin dat.length cid.length tok.length) = true := hm2
  rw [Bool.and_eq_true, decide_eq_true_eq] at hpl
  have hn' : n ≤ 16384 := by have := hpl.1; omega
  have mk := mk_bytes64 n (by omega)
  have hmay := fun W hs' => frmay_any 0 n d i o fin ar ad ac at_ rs.length dat.length cid.length tok.length er ed ec et rs hrl W hs'
  rw [hm2] at hmay
  have fc := fun (W : World) (b : Nat) (h : row? W b = some (fvA 0 n d (.slice ar rs.length er) i o fin (.slice ad dat.length ed) (.slice ac cid.length ec) (.slice at_ tok.length et))) => fv_cells h
  have hz : (fvA 0 n d (.slice ar rs.length er) i o fin (.slice ad dat.length ed) (.slice ac cid.length ec) (.slice at_ tok.length et)).size = 10 := rfl
  generalize fvA 0 n d (.slice ar rs.length er) i o fin (.slice ad dat.length ed) (.slice ac cid.length ec) (.slice at_ tok.length et) = F at *
  have P0 : PS w F (w.alloc (.cells F 28)) := ⟨row?_alloc_at _ _ _ _ rfl, (Below.refl _ _).alloc (Nat.le_refl _) _⟩
  have lf := rldFF (w.alloc (.cells F 28)) w.heap.size (by rw [P0.row, Option.map_some, hz])
  rw [P0.row] at lf
  have lf' : (loadAgg 28 (.pointer (some ⟨w.heap.size, 0, none⟩))).run Try.prog (w.alloc (.cells F 28)) = .ok (.agg F) (w.alloc (.cells F 28)) := lf
  have HMAY := Lib.hid hmay
  have FC := Lib.hid fc
  have HR := Lib.hid hr
  have HD := Lib.hid hd
  have HC := Lib.hid hc
  have HT := Lib.hid ht
  have Q0 := Lib.hid P0
  clear hmay fc lf hm hm2 P0 hr hd hc ht hpl
  go_enter Try.func16, Try.ntmps16
  go_wp2_with fail
  refine (HMAY.out _ (HR.out.below Q0.out.bel)).mono ?_
  rintro e w1 ⟨rfl, b1⟩
  have Q1 := Lib.hid (Q0.out.step b1)
  obtain ⟨c0, c1, c2, c3, c4, c5, c6, c7, c8, c9⟩ := FC.out _ _ Q1.out.row
  have hlt1 := row?_lt Q1.out.row
  clear b1 lf' Q0
  have HE := Lib.hid (show List.replicate n 0 = Fr.put ⟨0, n, d, rs, i, o, fin, dat, cid, tok⟩ from rfl)
  go_wp2_with fail
  have ow : (w1.alloc (.cells (bvs (List.replicate n 0)) 5)).ownsRow (w.heap.size + 1) 5 1 (.slice (some ⟨w1.heap.size, 0, none⟩) n n) (List.replicate n (0 : UInt8)).length ((List.replicate n (0 : UInt8)).map bv) := by
    have := World.ownsRow_lit (base := w.heap.size + 1) (e := 5) (size := 1) w1 (bvs (List.replicate n 0)) n Q1.out.size (by unfold maxLen; omega) (by simp [bvs_size])
    rw [List.length_replicate]
    exact this
  have QQ := Q1.out.step ((Below.refl w1.heap.size w1).alloc (Nat.le_refl _) (.cells (bvs (List.replicate n 0)) 5))
  have OW := Lib.hid ow
  have QW := Lib.hid QQ
  clear ow QQ
  go_ret
  exact ⟨_, rfl, HE.out ▸ OW.out, QW.out.bel⟩
end Go.Proofs.Ytipniobgijdlkaa
