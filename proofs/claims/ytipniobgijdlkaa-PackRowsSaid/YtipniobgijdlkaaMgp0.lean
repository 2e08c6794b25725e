/- PckC; PckF; PckG; PckR. -/
import Derived.Test.YtipniobgijdlkaaMgs9
import Derived.Test.YtipniobgijdlkaaMgsLibG2
import Derived.Test.YtipniobgijdlkaaMgs15
import Derived.Test.YtipniobgijdlkaaMgs21
import Derived.Test.YtipniobgijdlkaaMgsLibZ
import Derived.Test.YtipniobgijdlkaaMgs5
section
/- The walk of pack.Choose: the numbers of frames that go into a packet. -/
namespace Frm
open Go Go.RowKit Go.Rw Hdr
/-- Which frames fit, from a number on, into a room. -/
def chs : List Fr → Nat → Nat → List Nat
  | [], _, _ => []
  | f :: r, k, room => if f.put.length ≤ room then k :: chs r (k + 1) (room - f.put.length) else chs r (k + 1) room
/-- A frame that may be, no padding, not long. -/
def PN (f : Fr) : Prop := f.may = true ∧ f.k ≠ 0 ∧ f.fits ∧ f.put.length ≤ 9000
theorem PN.laid {f : Fr} (h : PN f) : f.laid = f.put := by unfold Fr.laid; rw [if_pos h.1]
theorem PN.pos {f : Fr} (h : PN f) : 1 ≤ f.put.length := (put_first h.1 h.2.1).2
end Frm
namespace Go.Proofs.Ytipniobgijdlkaa
open Go.RowKit Go.Rw Frm Hdr
attribute [local go_sem ↓] ldFF stFF alFF
attribute [local go_sem] rldFF rstFF ralFF setRow_alloc_at setRow_alloc_past setRow_drew
set_option maxRecDepth 100000 in
set_option maxHeartbeats 4000000 in
theorem choose_any (fs : List Fr) (room : Nat) (hl : fs.length ≤ 1000) (hroom : room ≤ 1000000) (hp : ∀ f, f ∈ fs → PN f) (v : Value) (w : World) (hs : Fsl w v fs) :
    Calls Try.prog 19 #[v, .int .i64 (room : Nat)] w fun e w' => ∃ v', e = .returned v' ∧ w'.ownsRow w.heap.size 3 1 v' (chs fs 0 room).length (((chs fs 0 room).map Int.ofNat).map iv) ∧ Below w.heap.size w w' := by
  obtain ⟨i0, hi, hz0, hz1, hz2⟩ := info_parts infoJ
  obtain ⟨ao, cap, rfl, hc⟩ := id hs
  obtain ⟨q, hq⟩ : ∃ q, (chs fs 0 room).map Int.ofNat = q := ⟨_, rfl⟩
  have hql : (chs fs 0 room).length = q.length := by rw [← hq]; simp
  rw [hq, hql]
  have HQ := Lib.hid hq
  have HC := Lib.hid hc
  have HP := Lib.hid hp
  have HL := Lib.hid (And.intro hl hroom)
  clear hs hc hq hql hp
  go_enter Try.func19, Try.ntmps19
  go_wp2_with fail
  go_loopw [1, 5, 11] (fun v1 v5 v11 wr => ∃ (k rm : Nat) (l : List Int), k ≤ fs.length ∧ v11 = .int .i64 (k : Nat) ∧ v1 = .int .i64 (rm : Nat) ∧ rm ≤ room ∧ l.length ≤ k ∧ wr.ownsRow w.heap.size 3 1 v5 l.length (l.map iv) ∧ l ++ (chs (fs.drop k) k rm).map Int.ofNat = q ∧ Below w.heap.size w wr) (fun _ _ v11 _ => fs.length - (intOf v11).toNat)
  case atStart => exact ⟨0, room, [], by omega, rfl, rfl, by omega, by simp, World.ownsRow_nil _ _ _ _, HQ.out, Below.refl _ _⟩
  case round =>
    obtain ⟨k, rm, l, hk, rfl, rfl, hrm, hlk, ho, hq, hb⟩ := hrel
    have HO := Lib.hid ho
    have BW := Lib.hid hb
    by_cases hlt : k < fs.length
    case neg =>
      have p2 : decide (k < fs.length) = false := decide_eq_false hlt
      have e : l = q := by
        rw [List.drop_eq_nil_of_le (by omega)] at hq
        simpa [chs] using hq
      subst e
      clear ho hb hq hlt hk
      go_wp2_with fail
      go_ret
      exact ⟨_, rfl, HO.out, BW.out⟩
    have p2 : decide (k < fs.length) = true := decide_eq_true hlt
    obtain ⟨b, off, rfl, hcell⟩ := HC.out (by omega)
    obtain ⟨A, hA, fv, hcA⟩ := hcell k hlt
    obtain ⟨f, hf⟩ : ∃ f, fs.getD k fr0 = f := ⟨_, rfl⟩
    have hg : fs.getD k fr0 = fs[k] := by simp [List.getD, hlt]
    have hpn : PN f := HP.out f (by rw [← hf, hg]; exact List.getElem_mem hlt)
    have hdrop : fs.drop k = f :: fs.drop (k + 1) := by rw [List.drop_eq_getElem_cons hlt, ← hg, hf]
    rw [hdrop] at hq
    rw [hf] at fv
    obtain ⟨pl, hpl⟩ : ∃ pl, f.put.length = pl := ⟨_, rfl⟩
    have hq : l ++ (if pl ≤ rm then k :: chs (fs.drop (k + 1)) (k + 1) (rm - pl) else chs (fs.drop (k + 1)) (k + 1) rm).map Int.ofNat = q := by rw [← hpl]; exact hq
    have hp1 : 1 ≤ pl := by rw [← hpl]; exact hpn.pos
    have hp9 : pl ≤ 9000 := by rw [← hpl]; exact hpn.2.2.2
    have hA1 : allOne A = true := by exact (fv.fva none (fun k e => by cases e)).size.2
    have la := load_ten AgFF wr b (off + k * 10) A hA (tenb hcA hA hb)
    have rx := row?_alloc_at wr A 28 wr.heap.size rfl
    have lx := rldFF (wr.alloc (.cells A 28)) wr.heap.size (by rw [rx, Option.map_some, hA])
    rw [rx, Option.getD_some] at lx
    have bA := (Below.refl wr.heap.size wr).alloc (Nat.le_refl _) (.cells A 28)
    have FV := Lib.hid ((fv.below hb).below bA)
    have HO1 := Lib.hid (own_below ho bA)
    have B1 := Lib.hid (hb.trans (bA.mono hb.size))
    have HQ2 := Lib.hid hq
    have HPN := Lib.hid hpn
    have HLT := Lib.hid hlt
    have HB := Lib.hid (And.intro hp1 (And.intro hp9 (And.intro hrm (And.intro hlk hpl))))
    have hk1 : wrap64 ((k : Int) + 1) = (k : Int) + 1 := IntWalk.wrap64_in _ (by have := HL.out; omega)
    have HK1 := Lib.hid hk1
    clear ho hb hq fv hcA hf hg hpn hdrop bA rx HO BW hcell hp1 hp9 hrm hlk hpl hk1 HQ hk
    go_wp2_with fail
    have hc := flen_fr f HPN.out.2.2.1 (.agg A) _ FV.out
    rw [HPN.out.laid, HB.out.2.2.2.2] at hc
    refine hc.mono ?_
    rintro e w2 ⟨rfl, h2⟩
    have HO2 := Lib.hid (own_below HO1.out h2)
    have B2 := Lib.hid (B1.out.trans (h2.mono B1.out.size))
    have pp : decide ((0 : Int) < (pl : Int)) = true := decide_eq_true (by have := HB.out; omega)
    have pp' : decide (0 < pl) = true := decide_eq_true (by have := HB.out; omega)
    clear hc h2 FV HO1 B1 la lx
    by_cases hfit : pl ≤ rm
    case neg =>
      have pq : decide (pl ≤ rm) = false := decide_eq_false hfit
      have hq := HQ2.out
      rw [if_neg hfit] at hq
      have HQ3 := Lib.hid hq
      clear hq HQ2 hfit
      go_wp2_with fail
      go_roundw
      case rel => exact ⟨k + 1, rm, l, HLT.out, by first | exact congrArg (Value.int .i64) HK1.out | rfl, rfl, HB.out.2.2.1, by have := HB.out; omega, HO2.out, HQ3.out, B2.out⟩
      case measure => first | exact meas HLT.out | (rw [HK1.out]; exact meas HLT.out)
    have pq : decide (pl ≤ rm) = true := decide_eq_true hfit
    have hq := HQ2.out
    rw [if_pos hfit, List.map_cons, List.append_cons] at hq
    have HQ3 := Lib.hid hq
    have HF := Lib.hid hfit
    clear hq HQ2 hfit
    go_wp2_with (at_builtin; refine Classical.byContradiction ?_)
    intro hh; apply hh; clear hh
    refine app_si2 rfl _ _ 34 rfl w.heap.size 3 i0 Try.underlying34 hi hz0 hz1 hz2 _ l rfl (HO2.out.alloc _) w2.heap.size 1 [(k : Int)] rfl ?hu ?hlen ?hbase ?_
    case hu =>
      intro j hj
      simp only [List.length_cons, List.length_nil] at hj
      obtain rfl : j = 0 := by omega
      exact (row?_cell (row?_alloc_at _ _ _ _ rfl) 0).trans rfl
    case hlen => have := HB.out; have := HLT.out; have := HL.out; simp; omega
    case hbase => have := B2.out.size; simp; omega
    intro v3 w3 o3 g3 _
    obtain ⟨l2, hl2⟩ : ∃ l2, l ++ [(k : Int)] = l2 := ⟨_, rfl⟩
    rw [hl2] at o3
    have hq := HQ3.out
    rw [show l ++ [Int.ofNat k] = l2 from hl2] at hq
    have b3 := (B2.out.alloc B2.out.size (.cells #[.int .i64 (k : Nat)] 3)).grown g3 (by have := B2.out.size; simp; omega) (fun j hj => (HO2.out.lt j hj).1)
    have HQ4 := Lib.hid hq
    have HL2 := Lib.hid (show l2.length = l.length + 1 by rw [← hl2]; simp)
    have HO3 := Lib.hid o3
    have B3 := Lib.hid b3
    have wr1 : wrap64 ((rm : Int) - (pl : Int)) = ((rm - pl : Nat) : Int) := (IntWalk.wrap64_in _ (by have := HB.out; have := HL.out; have := HF.out; omega)).trans (by have := HF.out; omega)
    obtain ⟨rm2, hrm2⟩ : ∃ rm2, rm - pl = rm2 := ⟨_, rfl⟩
    rw [hrm2] at wr1
    have HRM := Lib.hid hrm2
    clear o3 g3 b3 hq hl2 hrm2 HQ3 HO2 B2
    go_wp2_with fail
    go_roundw
    case rel => exact ⟨k + 1, rm2, l2, HLT.out, by first | exact congrArg (Value.int .i64) HK1.out | rfl, congrArg (Value.int .i64) wr1, by have := HB.out; have := HRM.out; clear wr1; omega, by have := HB.out; have := HL2.out; clear wr1; omega, HO3.out, by have h := HQ4.out; rw [HRM.out] at h; exact h, B3.out⟩
    case measure => first | exact meas HLT.out | (rw [HK1.out]; exact meas HLT.out)
end Go.Proofs.Ytipniobgijdlkaa
end
section
/- The walk of pack.Fill: frames laid one behind the other, and zeros behind them. -/
namespace Frm
open Go Go.RowKit Go.Rw Hdr
theorem cat_take (fs : List Fr) (k : Nat) (h : k < fs.length) : cat (fs.take (k + 1)) = cat (fs.take k) ++ (fs.getD k fr0).put := by
  have e : fs.getD k fr0 = fs[k] := by simp [List.getD, h]
  rw [e, List.take_add_one, List.getElem?_eq_getElem h]
  unfold cat
  rw [List.flatMap_append]
  simp
theorem cat_take_le (fs : List Fr) (k : Nat) : (cat (fs.take k)).length ≤ (cat fs).length := by
  have : cat fs = cat (fs.take k) ++ cat (fs.drop k) := by
    unfold cat
    rw [← List.flatMap_append, List.take_append_drop]
  rw [this, List.length_append]; omega
end Frm
namespace Go.Proofs.Ytipniobgijdlkaa
open Go.RowKit Go.Rw Frm Hdr
attribute [local go_sem ↓] ldFF stFF alFF
attribute [local go_sem] rldFF rstFF ralFF setRow_alloc_at setRow_alloc_past setRow_drew
set_option maxRecDepth 100000 in
set_option maxHeartbeats 4000000 in
theorem fill_any (fs : List Fr) (room : Nat) (hl : fs.length ≤ 1000) (hroom : room ≤ 16384) (hfit : (cat fs).length ≤ room) (hp : ∀ f, f ∈ fs → PN f) (v : Value) (w : World) (hs : Fsl w v fs) :
    Calls Try.prog 20 #[v, .int .i64 (room : Nat)] w fun e w' => ∃ v', e = .returned (.tuple #[v', .int .i64 0]) ∧ w'.ownsRow w.heap.size 5 1 v' (cat fs ++ List.replicate (room - (cat fs).length) 0).length ((cat fs ++ List.replicate (room - (cat fs).length) 0).map bv) ∧ Below w.heap.size w w' := by
  obtain ⟨i0, hi, hz0, hz1, hz2⟩ := info_parts info8
  obtain ⟨ao, cap, rfl, hc⟩ := id hs
  have HC := Lib.hid hc
  have HP := Lib.hid hp
  have HL := Lib.hid (And.intro hl (And.intro hroom hfit))
  clear hs hc hp hl hroom hfit
  go_enter Try.func20, Try.ntmps20
  go_wp2_with fail
  go_loopw [6, 11] (fun v6 v11 wr => ∃ (k : Nat), k ≤ fs.length ∧ v11 = .int .i64 (k : Nat) ∧ wr.ownsRow w.heap.size 5 1 v6 (cat (fs.take k)).length ((cat (fs.take k)).map bv) ∧ Below w.heap.size w wr) (fun _ v11 _ => fs.length - (intOf v11).toNat)
  case atStart => exact ⟨0, by omega, rfl, World.ownsRow_nil _ _ _ _, Below.refl _ _⟩
  case round =>
    obtain ⟨k, hk, rfl, ho, hb⟩ := hrel
    have HO := Lib.hid ho
    have BW := Lib.hid hb
    have hcl := cat_take_le fs k
    obtain ⟨L, hL⟩ : ∃ L, cat (fs.take k) = L := ⟨_, rfl⟩
    rw [hL] at ho hcl
    obtain ⟨a6, x6, rfl, -, -, -⟩ := id (Own.sl ho)
    have HO := Lib.hid ho
    by_cases hlt : k < fs.length
    case neg =>
      have p2 : decide (k < fs.length) = false := decide_eq_false hlt
      rw [List.take_of_length_le (by omega)] at hL
      have HCF := Lib.hid hL
      have hfit := HL.out.2.2
      rw [hL] at hfit
      have hroom := HL.out.2.1
      have p3 : decide (room < L.length) = false := decide_eq_false (by omega)
      have p3' : decide ((room : Int) < (L.length : Int)) = false := decide_eq_false (by omega)
      have p4 : decide ((16384 : Int) < (room : Int)) = false := decide_eq_false (by omega)
      have wm : wrap64 ((room : Int) - (L.length : Int)) = ((room - L.length : Nat) : Int) := (IntWalk.wrap64_in _ (by omega)).trans (by omega)
      obtain ⟨m, hm⟩ : ∃ m, room - L.length = m := ⟨_, rfl⟩
      rw [hm] at wm
      have HM := Lib.hid (And.intro hm (And.intro hfit hroom))
      clear ho hb hL hlt hk hfit hroom hm hcl
      go_wp2_with (at_builtin; refine Classical.byContradiction ?_)
      intro hh; apply hh; clear hh
      refine app_zeros rfl _ _ 25 3 rfl w.heap.size 5 i0 Try.underlying25 Try.underlying3 hi hz0 hz1 hz2 (.slice a6 L.length x6) L rfl HO.out m (congrArg (Value.int .i64) wm) (by have := HM.out; omega) (by have := HM.out; omega) BW.out.size ?_
      intro v3 w3 o3 g3
      have O3 := Lib.hid o3
      have B3 := Lib.hid (BW.out.grown g3 BW.out.size (fun j hj => (HO.out.lt j hj).1))
      clear o3 g3 wm p3 p3' p4
      go_wp2_with fail
      go_ret2
      refine ⟨_, rfl, ?_, B3.out⟩
      rw [HCF.out, HM.out.1]
      exact O3.out
    have p2 : decide (k < fs.length) = true := decide_eq_true hlt
    obtain ⟨b, off, rfl, hcell⟩ := HC.out (by omega)
    obtain ⟨A, hA, fv, hcA⟩ := hcell k hlt
    have hct := cat_take fs k hlt
    obtain ⟨f, hf⟩ : ∃ f, fs.getD k fr0 = f := ⟨_, rfl⟩
    have hg : fs.getD k fr0 = fs[k] := by simp [List.getD, hlt]
    have hpn : PN f := HP.out f (by rw [← hf, hg]; exact List.getElem_mem hlt)
    rw [hf] at fv hct
    rw [hL] at hct
    have hA1 : allOne A = true := by exact (fv.fva none (fun k e => by cases e)).size.2
    have la := load_ten AgFF wr b (off + k * 10) A hA (tenb hcA hA hb)
    have rx := row?_alloc_at wr A 28 wr.heap.size rfl
    have lx := rldFF (wr.alloc (.cells A 28)) wr.heap.size (by rw [rx, Option.map_some, hA])
    rw [rx, Option.getD_some] at lx
    have c0 : (wr.alloc (.cells A 28)).cell? ⟨wr.heap.size, 0, none⟩ = some (.int .i64 f.k) := (row?_cell rx 0).trans (by obtain ⟨_, _, _, _, e, _⟩ := fv; injection e with e; rw [e]; rfl)
    have bA := (Below.refl wr.heap.size wr).alloc (Nat.le_refl _) (.cells A 28)
    have FV := Lib.hid ((fv.below hb).below bA)
    have HO1 := Lib.hid (own_below ho bA)
    have B1 := Lib.hid (hb.trans (bA.mono hb.size))
    have HPN := Lib.hid hpn
    have HLT := Lib.hid hlt
    have HCT := Lib.hid hct
    have HCL := Lib.hid hcl
    have RX := Lib.hid rx
    have qk : (f.k == 0) = false := by simpa using hpn.2.1
    have hk1 : wrap64 ((k : Int) + 1) = (k : Int) + 1 := IntWalk.wrap64_in _ (by have := HL.out; omega)
    have HK1 := Lib.hid hk1
    clear ho hb fv hcA hf hg hpn hct hcl bA rx HO BW hcell hL hk1 hk
    go_wp2_with fail
    have hc := fmay_fr f HPN.out.2.2.1 (.agg A) _ FV.out
    rw [HPN.out.1] at hc
    refine hc.mono ?_
    rintro e w2 ⟨rfl, h2⟩
    have FV2 := Lib.hid (FV.out.below h2)
    have HO2 := Lib.hid (own_below HO1.out h2)
    have B2 := Lib.hid (B1.out.trans (h2.mono B1.out.size))
    have rx2 : row? w2 wr.heap.size = some A := by rw [row?_below h2 (row?_lt RX.out)]; exact RX.out
    have lx2 := rldFF w2 wr.heap.size (by rw [rx2, Option.map_some, hA])
    rw [rx2, Option.getD_some] at lx2
    clear hc h2 FV HO1 B1 la lx c0 rx2
    go_wp2_with fail
    have hc := fput_fr f HPN.out.2.2.1 (.agg A) w2 FV2.out
    rw [HPN.out.laid] at hc
    refine hc.mono ?_
    rintro e w3 ⟨v3, rfl, o3, h3⟩
    have HO3 := Lib.hid (own_below HO2.out h3)
    have B3 := Lib.hid (B2.out.trans (h3.mono B2.out.size))
    have S3 := Lib.hid (Own.sl o3)
    clear hc o3 h3 HO2 B2 lx2 FV2
    go_wp2_with (at_builtin; refine Classical.byContradiction ?_)
    intro hh; apply hh; clear hh
    refine app_sl rfl _ _ 25 rfl w.heap.size 5 i0 Try.underlying25 hi hz0 hz1 hz2 (.slice a6 L.length x6) L rfl HO3.out v3 f.put rfl S3.out (by have := HCL.out; have := HL.out; have := HPN.out.2.2.2; omega) B3.out.size ?_
    intro v4 w4 o4 g4
    rw [← HCT.out] at o4
    have B4 := Lib.hid (B3.out.grown g4 B3.out.size (fun j hj => (HO3.out.lt j hj).1))
    have O4 := Lib.hid o4
    clear o4 g4 HO3 B3 S3
    go_wp2_with fail
    go_roundw
    case rel => exact ⟨k + 1, HLT.out, by first | exact congrArg (Value.int .i64) HK1.out | rfl, O4.out, B4.out⟩
    case measure => first | exact meas HLT.out | (rw [HK1.out]; exact meas HLT.out)
end Go.Proofs.Ytipniobgijdlkaa
end
section
/- What is chosen, in plain words; slices of frames of the call's own as ones that are lent. -/
namespace Frm
open Go Go.RowKit Go.Rw Hdr
theorem chs_in : ∀ (fs : List Fr) (k room : Nat), ∀ j, j ∈ chs fs k room → k ≤ j ∧ j < k + fs.length := by
  intro fs
  induction fs with
  | nil => intro k room j h; simp [chs] at h
  | cons f r ih =>
    intro k room j h
    unfold chs at h
    rw [List.length_cons]
    split at h
    · rcases List.mem_cons.1 h with rfl | h
      · omega
      · have := ih _ _ j h; omega
    · have := ih _ _ j h; omega
theorem chs_up : ∀ (fs : List Fr) (k room : Nat), (chs fs k room).Pairwise (· < ·) := by
  intro fs
  induction fs with
  | nil => intro k room; exact List.Pairwise.nil
  | cons f r ih =>
    intro k room
    unfold chs
    split
    · exact List.Pairwise.cons (fun j hj => by have := chs_in r _ _ j hj; omega) (ih _ _)
    · exact ih _ _
theorem chs_fit : ∀ (fs : List Fr) (k room : Nat), (cat ((chs fs k room).map fun j => fs.getD (j - k) fr0)).length ≤ room := by
  intro fs
  induction fs with
  | nil => intro k room; simp [chs, cat]
  | cons f r ih =>
    intro k room
    have hm : ∀ room', ((chs r (k + 1) room').map fun j => (f :: r).getD (j - k) fr0) = (chs r (k + 1) room').map fun j => r.getD (j - (k + 1)) fr0 := by
      intro room'
      apply List.map_congr_left
      intro j hj
      have := (chs_in r _ _ j hj).1
      obtain ⟨q, hq⟩ : ∃ q, j - (k + 1) = q := ⟨_, rfl⟩
      rw [hq, show j - k = q + 1 by omega]
      rfl
    unfold chs
    split
    · rename_i hfit
      rw [List.map_cons, hm, Nat.sub_self]
      have h := ih (k + 1) (room - f.put.length)
      have e : cat ((f :: r).getD 0 fr0 :: (chs r (k + 1) (room - f.put.length)).map fun j => r.getD (j - (k + 1)) fr0) = f.put ++ cat ((chs r (k + 1) (room - f.put.length)).map fun j => r.getD (j - (k + 1)) fr0) := by simp [cat]
      rw [e, List.length_append]
      omega
    · rw [hm]; exact ih _ _
/-- The frames that are chosen. -/
def chosen (T : List Fr) (room : Nat) : List Fr := (chs T 0 room).map fun j => T.getD j fr0
theorem chosen_fit (T : List Fr) (room : Nat) : (cat (chosen T room)).length ≤ room := chs_fit T 0 room
theorem chs_at {T : List Fr} {room j : Nat} (h : j < (chs T 0 room).length) : (chs T 0 room).getD j 0 < T.length := by
  have e : (chs T 0 room).getD j 0 = (chs T 0 room)[j] := by simp [List.getD, h]
  rw [e]
  have := (chs_in T 0 room _ (List.getElem_mem h)).2
  omega
theorem chs_lt {T : List Fr} {room j : Nat} (h : j + 1 < (chs T 0 room).length) : (chs T 0 room).getD j 0 < (chs T 0 room).getD (j + 1) 0 := by
  have e1 : (chs T 0 room).getD j 0 = (chs T 0 room)[j] := by simp [List.getD, show j < (chs T 0 room).length by omega]
  have e2 : (chs T 0 room).getD (j + 1) 0 = (chs T 0 room)[j + 1] := by simp [List.getD, h]
  rw [e1, e2]
  exact List.pairwise_iff_getElem.1 (chs_up T 0 room) j (j + 1) (by omega) h (by omega)
theorem chosen_take {T : List Fr} {room j : Nat} (h : j < (chs T 0 room).length) : (chosen T room).take (j + 1) = (chosen T room).take j ++ [T.getD ((chs T 0 room).getD j 0) fr0] := by
  have e : (chs T 0 room).getD j 0 = (chs T 0 room)[j] := by simp [List.getD, h]
  have hl : j < (chosen T room).length := by simpa [chosen] using h
  rw [e, List.take_add_one, List.getElem?_eq_getElem hl]
  simp [chosen]
theorem chosen_len (T : List Fr) (room : Nat) : (chosen T room).length = (chs T 0 room).length := by simp [chosen]
theorem chosen_pn {T : List Fr} {room : Nat} (h : ∀ f, f ∈ T → PN f) : ∀ f, f ∈ chosen T room → PN f := by
  intro f hf
  unfold chosen at hf
  obtain ⟨j, hj, rfl⟩ := List.mem_map.1 hf
  have := (chs_in T 0 room j hj).2
  rw [List.getD_eq_getElem?_getD, List.getElem?_eq_getElem (by omega)]
  exact h _ (List.getElem_mem (by omega))
theorem chs_len (T : List Fr) : ∀ (k room : Nat), (chs T k room).length ≤ T.length := by
  induction T with
  | nil => intro k room; simp [chs]
  | cons f r ih =>
    intro k room
    unfold chs
    split
    · rw [List.length_cons, List.length_cons]; have := ih (k + 1) (room - f.put.length); omega
    · rw [List.length_cons]; have := ih (k + 1) room; omega
theorem pads_small (m : Nat) (h : m ≤ 400) : pads m = if m = 0 then [] else [padF m] := by
  by_cases h0 : m = 0
  · rw [if_pos h0, h0]; rfl
  · rw [if_neg h0, pads_cons m (by omega), Nat.min_eq_left (by omega), show m - 16384 = 0 by omega]
    rfl
/-- What is filled is read as it was, the rest being nothing. -/
theorem fall_fill {C : List Fr} {m : Nat} (hp : ∀ f, f ∈ C → PN f) (hl : C.length ≤ 8) (hm : m ≤ 400) (h0 : 1 ≤ (cat C).length + m) :
    fall (cat C ++ List.replicate m 0) = (C ++ pads m, 0) := by
  show fallR _ [] = _
  rw [fallR_cat C _ [] (fun f hf => ⟨(hp f hf).1, (hp f hf).2.1⟩) (by simp; omega), List.nil_append]
  have h := fallR_zeros m m [] C (Nat.le_refl _) (fun c t e => by cases e) (by rw [pads_small m hm]; split <;> simp <;> omega)
  rw [List.append_nil] at h
  rw [h, fallR_nil]
  intro e
  rw [List.length_append] at e
  have hc : C = [] := List.eq_nil_of_length_eq_zero (by omega)
  rw [hc] at h0
  have : m = 0 := by
    by_cases hz : m = 0
    · exact hz
    · rw [pads_small m hm, if_neg hz] at e; simp at e
  rw [this] at h0
  simp [cat] at h0
theorem chosen_none {T : List Fr} (h : ∀ f, f ∈ T → PN f) : chosen T 0 = [] := by
  have hf := chosen_fit T 0
  have hp := chosen_pn (room := 0) h
  cases hc : chosen T 0 with
  | nil => rfl
  | cons f r =>
    rw [hc] at hf hp
    have := (hp f List.mem_cons_self).pos
    have e : cat (f :: r) = f.put ++ cat r := by simp [cat]
    rw [e, List.length_append] at hf
    omega
theorem OwnFs.fsl {w : World} {N : Nat} {tF : TypeId} {v : Value} {fs : List Fr} (h : OwnFs w N tF v fs) : Fsl w v fs := by
  obtain ⟨ao, cap, rfl⟩ := h.shape
  refine ⟨ao, cap, rfl, fun h0 => ?_⟩
  obtain ⟨g, cap', A, e, _⟩ := h.get 0 h0
  injection e with e1
  refine ⟨g, 0, e1, fun k hk => ?_⟩
  obtain ⟨g', cap'', A', e', fa, hA, hc⟩ := h.get k hk
  injection e' with e2
  rw [e1] at e2
  injection e2 with e3
  injection e3 with e4
  subst e4
  exact ⟨A', hA, fa.fv, fun j hj => by rw [Nat.zero_add]; exact hc j hj⟩
theorem OwnFs.of2 {w : World} {N : Nat} {tF : TypeId} {v : Value} {fs : List Fr} (h : OwnFs w N tF v fs) (g : Option Nat) (hg : ∀ k, g = some k → w.heap.size ≤ k) : OF2 w N tF v fs g := by
  obtain ⟨As, h1, h2, h3⟩ := h
  refine ⟨As, h1, h2, h3, fun k hk => (h3 k hk).new hg, fun k hk e => ?_⟩
  have := hg k e.symm
  have := (h2.lt k hk).2
  omega
theorem OF2.get {w : World} {N : Nat} {tF : TypeId} {v : Value} {fs : List Fr} {g : Option Nat} (h : OF2 w N tF v fs g) (k : Nat) (hk : k < fs.length) :
    ∃ b cap A, v = .slice (some ⟨b, 0, none⟩) fs.length cap ∧ FvA w v.ownBlock A (fs.getD k fr0) ∧ FvA w g A (fs.getD k fr0) ∧ A.size = 10 ∧ ∀ j, j < 10 → w.cell? ⟨b, k * 10 + j, none⟩ = A[j]? := by
  obtain ⟨As, hl, ho, hf, hf2, hne⟩ := h
  have hsz : ∀ q, q < As.length → (As.getD q #[]).size = 10 := fun q hq => (hf q (by omega)).size.1
  rcases ho.2 with ⟨rfl, h0⟩ | ⟨b, cap, cur, rfl, hb, hg, hnc, hcm, hcs, htake⟩
  · omega
  · refine ⟨b, cap, _, rfl, hf k hk, hf2 k hk, (hf k hk).size.1, fun j hj => ?_⟩
    rw [cell_of_row w b _ cur _ (0, 0) hg, ← flat_get As k (by omega) hsz j hj, ← htake, List.getElem?_take, if_pos (by omega), Array.getElem?_toList]
end Frm
end
section
/- The walk of package pack's Room; awake of chapter 23's laws. -/
namespace Go.Proofs.Ytipniobgijdlkaa
open Go.RowKit Go.Rw Frm Hdr
attribute [local go_sem ↓] ldFF stFF alFF ldH stH alH bdH
attribute [local go_sem] rldFF rstFF ralFF rldH rstH ralH setRow_alloc_at setRow_alloc_past setRow_drew
set_option maxHeartbeats 1000000 in
theorem room_ok (H : Array Value) (hs : H.size = 10) (n : Nat) (hn : n ≤ 1000) (m : Int) (hm : max (256 - (n : Int) - 16) 0 = m) (w : World)
    (hput : ∀ W, Below w.heap.size w W → Calls Try.prog 24 #[.agg H, .int .i64 16] W fun e w' => ∃ v l, e = .returned (.tuple #[v, .int .i64 0]) ∧ Sl w' v l ∧ l.length = n ∧ Below W.heap.size W w') :
    Calls Try.prog 25 #[.agg H] w fun e w' => e = .returned (.int .i64 m) ∧ Below w.heap.size w w' := by
  have HP := Lib.hid (hput (w.alloc (.cells H 46)) ((Below.refl _ _).alloc (Nat.le_refl _) _))
  have le := rldH (w.alloc (.cells H 46)) w.heap.size (by rw [row?_alloc_at _ _ _ _ rfl, Option.map_some, hs])
  rw [row?_alloc_at _ _ _ _ rfl] at le
  have le' : (loadAgg 46 (.pointer (some ⟨w.heap.size, 0, none⟩))).run Try.prog (w.alloc (.cells H 46)) = .ok (.agg H) (w.alloc (.cells H 46)) := le
  clear le hput
  go_enter Try.func25, Try.ntmps25
  go_wp2_with fail
  refine HP.out.mono ?_
  rintro e w1 ⟨v, l, rfl, hl, hln, b1⟩
  obtain ⟨ao, cap, rfl, -, -, -⟩ := hl
  rw [hln]
  have B1 := Lib.hid (((Below.refl w.heap.size w).alloc (Nat.le_refl _) (.cells H 46)).trans (b1.mono (by simp)))
  have HV := Lib.hid hm
  clear b1 le' hm
  go_wp2_with fail
  go_ret
  exact ⟨congrArg (fun z => Ending.returned (.int .i64 z)) HV.out, B1.out⟩
set_option maxHeartbeats 1000000 in
theorem room_no (H : Array Value) (hs : H.size = 10) (w : World)
    (hput : ∀ W, Below w.heap.size w W → Calls Try.prog 24 #[.agg H, .int .i64 16] W fun e w' => e = .returned (.tuple #[.slice none 0 0, .int .i64 2]) ∧ Below W.heap.size W w') :
    Calls Try.prog 25 #[.agg H] w fun e w' => e = .returned (.int .i64 0) ∧ Below w.heap.size w w' := by
  have HP := Lib.hid (hput (w.alloc (.cells H 46)) ((Below.refl _ _).alloc (Nat.le_refl _) _))
  have le := rldH (w.alloc (.cells H 46)) w.heap.size (by rw [row?_alloc_at _ _ _ _ rfl, Option.map_some, hs])
  rw [row?_alloc_at _ _ _ _ rfl] at le
  have le' : (loadAgg 46 (.pointer (some ⟨w.heap.size, 0, none⟩))).run Try.prog (w.alloc (.cells H 46)) = .ok (.agg H) (w.alloc (.cells H 46)) := le
  clear le hput
  go_enter Try.func25, Try.ntmps25
  go_wp2_with fail
  refine HP.out.mono ?_
  rintro e w1 ⟨rfl, b1⟩
  have B1 := Lib.hid (((Below.refl w.heap.size w).alloc (Nat.le_refl _) (.cells H 46)).trans (b1.mono (by simp)))
  clear b1 le'
  go_wp2_with fail
  go_ret
  exact ⟨rfl, B1.out⟩
theorem hvA_pt (lg : Bool) (kind : Int) (ver : Nat) (vd vs vt : Value) (sp ph : Bool) (num : Nat) (nl : Int) : (hvA lg kind ver vd vs vt sp ph num nl).size = 10 := by simp [hvA]
/-- Room of a short header. -/
theorem room_short (dst : List UInt8) (hd : dst.length = 8) (vd : Value) (nl : Nat) (h1 : 1 ≤ nl) (h4 : nl ≤ 4) (w : World) (hs : Sl w vd dst) :
    Calls Try.prog 25 #[.agg (hvA false 0 0 vd (.slice none 0 0) (.slice none 0 0) false false 0 nl)] w fun e w' => e = .returned (.int .i64 (231 - nl)) ∧ Below w.heap.size w w' := by
  have := room_ok (hvA false 0 0 vd (.slice none 0 0) (.slice none 0 0) false false 0 nl) (hvA_pt _ _ _ _ _ _ _ _ _ _) (9 + nl) (by omega) (231 - nl) (by omega) w (fun W hW => (put_short dst hd vd none none 0 0 false false 0 nl 16 h1 h4 (by decide) (by omega) (by omega) W (hs.below hW)).mono (by
    rintro e w' ⟨v, rfl, hv, hb⟩
    exact ⟨v, _, rfl, hv, by simp [hd, be]; omega, hb⟩))
  exact this
theorem long_len (dst src tok : List UInt8) (nl : Nat) (hd : dst.length = 8) (htl : tok.length < 60) : (longB 0 0 dst src tok 0 nl 16).length = 18 + src.length + tok.length + nl := by
  have hv : vlen tok.length = 1 := by unfold vlen; rw [if_pos (by omega)]
  simp [longB, longTok, be, vin_length, hd, hv]
  omega
/-- Room of a long one. -/
theorem room_long (dst src tok : List UInt8) (vd vs vt : Value) (nl : Nat) (hd : dst.length = 8) (hsl : src.length ≤ 20) (htl : tok.length < 60) (h1 : 1 ≤ nl) (h4 : nl ≤ 4) (w : World) (sd : Sl w vd dst) (ss : Sl w vs src) (st : Sl w vt tok) :
    Calls Try.prog 25 #[.agg (hvA true 0 0 vd vs vt false false 0 nl)] w fun e w' => e = .returned (.int .i64 (222 - nl - src.length - tok.length)) ∧ Below w.heap.size w w' := by
  have hm : mayN true 0 0 dst.length src.length tok.length false false 0 nl = true := by
    unfold mayN
    rw [if_neg (by omega), if_neg (by decide)]
    simp; omega
  have hlen := long_len dst src tok nl hd htl
  have := room_ok (hvA true 0 0 vd vs vt false false 0 nl) (hvA_pt _ _ _ _ _ _ _ _ _ _) (18 + src.length + tok.length + nl) (by omega) (222 - nl - src.length - tok.length) (by omega) w (fun W hW => (put_long 0 0 dst src tok vd vs vt 0 nl 16 hm (by omega) (by omega) W (sd.below hW) (ss.below hW) (st.below hW)).mono (by
    rintro e w' ⟨v, rfl, hv, hb⟩
    exact ⟨v, _, rfl, Own.sl hv, hlen, hb⟩))
  exact this
theorem room_none (nl : Nat) (w : World) :
    Calls Try.prog 25 #[.agg (hvA false 0 0 (.slice none 0 0) (.slice none 0 0) (.slice none 0 0) false false 0 nl)] w fun e w' => e = .returned (.int .i64 0) ∧ Below w.heap.size w w' :=
  room_no _ (hvA_pt _ _ _ _ _ _ _ _ _ _) w (fun W _ => put_no false 0 0 none none none 0 0 0 0 0 0 false false 0 nl 16 (.inl (by
    unfold mayN
    rw [if_pos (by omega)])) W)
theorem mk8 (w : World) : (Instr.makeSlice 25 (.int .i64 8) (.int .i64 8)).run Try.prog w = .ok (.slice (some ⟨w.heap.size, 0, none⟩) 8 8) (w.alloc (.cells (bvs (Aes.zeros 8)) 5)) := by kernel_rfl
theorem buildH39 (ao : Option Addr) (m cap : Nat) (x : Int) (w : World) : (buildP 46 #[(3, .slice ao m cap), (9, .int .i64 x)]).run Try.prog w = .ok (.agg (hvA false 0 0 (.slice ao m cap) (.slice none 0 0) (.slice none 0 0) false false 0 x)) w := Go.run_build w _ _ _ (by kernel_rfl)
theorem bdF (ps : Array (Nat × Value)) : Instr.build 28 ps = buildP 28 ps := rfl
theorem buildFz0 (k : Int) (w : World) : (buildP 28 #[(0, .int .i64 k)]).run Try.prog w = .ok (.agg (bare k)) w := Go.run_build w _ _ _ (by kernel_rfl)
attribute [local go_sem ↓] bdF
attribute [local go_sem] mk8 buildH39 buildFz0
set_option maxRecDepth 20000 in
set_option maxHeartbeats 2000000 in
theorem awake_any (w : World) :
    Calls Try.prog 13 #[] w fun e w' => e = .returned (.bool true) ∧ Below w.heap.size w w' := by
  go_enter Try.func13, Try.ntmps13
  go_wp2_with fail
  refine (fill_ping _ _ ((row?_alloc_at _ _ _ _ (by simp)).trans (congrArg some (by kernel_rfl)))).mono ?_
  rintro e w3 ⟨v3, rfl, hs3, b3⟩
  have R3 := Lib.hid (show row? w3 (w.heap.size + 1) = some (hvA false 0 0 (.slice (some ⟨w.heap.size, 0, none⟩) 8 8) (.slice none 0 0) (.slice none 0 0) false false 0 4) by
    rw [row?_below b3 (by simp <;> omega), row?_alloc_past _ _ _ (by simp <;> omega)]; exact row?_alloc_at _ _ _ _ (by simp <;> omega))
  have Q3 := Lib.hid (show row? w3 w.heap.size = some (bvs (Aes.zeros 8)) by
    rw [row?_below b3 (by simp <;> omega), row?_alloc_past _ _ _ (by simp <;> omega), row?_alloc_past _ _ _ (by simp <;> omega)]; exact row?_alloc_at _ _ _ _ rfl)
  have B3 := Lib.hid ((bel3 w _ _ _).trans (b3.mono (by simp <;> omega)))
  have S3 := Lib.hid hs3
  have le := rldH w3 (w.heap.size + 1) (by rw [R3.out]; rfl)
  rw [R3.out] at le
  have le' : (loadAgg 46 (.pointer (some ⟨w.heap.size + 1, 0, none⟩))).run Try.prog w3 = .ok (.agg (hvA false 0 0 (.slice (some ⟨w.heap.size, 0, none⟩) 8 8) (.slice none 0 0) (.slice none 0 0) false false 0 4)) w3 := le
  clear le b3 hs3
  go_wp2_with fail
  refine (room_short (Aes.zeros 8) (by simp [Aes.zeros]) _ 4 (by omega) (by omega) w3 (Sl.row Q3.out)).mono ?_
  rintro e w4 ⟨rfl, b4⟩
  have B4 := Lib.hid (B3.out.trans (b4.mono B3.out.size))
  have S4 := Lib.hid (S3.out.below b4)
  clear b4 le'
  go_wp2_with fail
  have l3 : Sl (w4.alloc (.cells (bvs [1, 0, 0]) 5)) (.slice (some ⟨w4.heap.size, 0, none⟩) 3 3) [1, 0, 0] := Sl.row (l := [1, 0, 0]) (row?_alloc_at _ _ _ _ rfl)
  refine (same_any [1, 0, 0] [1, 0, 0] (by simp) _ _ _ (S4.out.below ((Below.refl _ _).alloc (Nat.le_refl _) _)) l3).mono ?_
  rw [show decide (([1, 0, 0] : List UInt8) = [1, 0, 0]) = true from rfl]
  rintro e w5 ⟨rfl, b5⟩
  have B5 := Lib.hid ((B4.out.alloc B4.out.size (.cells (bvs [1, 0, 0]) 5)).trans (b5.mono (B4.out.alloc B4.out.size _).size))
  clear b5 l3
  go_wp2_with fail
  refine (data_209 _).mono ?_
  rintro e w6 ⟨rfl, b6⟩
  have B6 := Lib.hid (B5.out.trans (b6.mono B5.out.size))
  clear b6
  go_wp2_with fail
  refine (choose_pd _ _ ((row?_alloc_at _ _ _ _ rfl).trans (congrArg some (by kernel_rfl)))).mono ?_
  rintro e w7 ⟨v7, rfl, hs7, b7⟩
  have B7 := Lib.hid ((B6.out.alloc B6.out.size _).trans (b7.mono (B6.out.alloc B6.out.size _).size))
  have S7 := Lib.hid hs7
  clear b7 hs7
  go_wp2_with fail
  have l8 : Si (w7.alloc (.cells (ivs [0]) 3)) (.slice (some ⟨w7.heap.size, 0, none⟩) 1 1) [0] := Si.row (l := [0]) (row?_alloc_at _ _ _ _ rfl)
  refine (sameI_any [0] [0] (by simp) _ _ _ (S7.out.below ((Below.refl _ _).alloc (Nat.le_refl _) _)) l8).mono ?_
  rw [show decide (([0] : List Int) = [0]) = true from rfl]
  rintro e w8 ⟨rfl, b8⟩
  have B8 := Lib.hid ((B7.out.alloc B7.out.size (.cells (ivs [0]) 3)).trans (b8.mono (B7.out.alloc B7.out.size _).size))
  clear b8 l8
  go_wp2_with fail
  go_ret
  exact ⟨rfl, B8.out⟩
end Go.Proofs.Ytipniobgijdlkaa
end
