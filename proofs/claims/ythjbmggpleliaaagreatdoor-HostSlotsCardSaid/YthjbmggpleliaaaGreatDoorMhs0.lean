/- HdrW12; HdrW14; HdrT2; HdrPR; VarR; VarR2; HdrR2; HdrR3; HdrW15; HdrR4; HdrTe; VltI; LibH2; FrmW1; SltA; SltB; SltC; SltD; SltE; SltG; SltF. -/
import Derived.Test.YthjbmggpleliaaaGreatDoorMhb4
import Derived.Test.YthjbmggpleliaaaGreatDoorMhb25
import Derived.Test.YthjbmggpleliaaaGreatDoorMhb21
import Derived.Test.YthjbmggpleliaaaGreatDoorMhb23
import Derived.Test.YthjbmggpleliaaaGreatDoorMhbLibI
import Derived.Test.YthjbmggpleliaaaGreatDoorMhb49
import Derived.Test.YthjbmggpleliaaaGreatDoorMhb47
import Derived.Test.YthjbmggpleliaaaGreatDoorMhb40
section
namespace Hst
open Go Go.Rw
theorem HS.at2 (s : HS) : s.row[2]? = some (.bool s.ideal) := rfl
theorem HS.at3 (s : HS) : s.row[3]? = some s.secret := rfl
end Hst
namespace Go.Proofs.YthjbmggpleliaaaGreatDoor
open Go.RowKit Go.Rw Aes Hdr Vlt Hst
end Go.Proofs.YthjbmggpleliaaaGreatDoor

end
section
namespace Go.Law
open Go Go.RowKit Go.ChangeShapes Go.WideShapes Go.ChangeAt Go.Rw
section
variable {P : Program} {H : Type} {enc : TypeId × Value → H}
theorem open_islice {W : World} {base : Nat} {t e : TypeId} {v : Value} {d : DataW H} {p : List MemPlace} (hu : P.underlying t = some (.slice e)) (he : P.underlying e = some (.int .i64)) (hc : P.cellsOf e = 1)
  (hval : Value.okWide P W .any base t v) (h1 : DataW.Trod enc P W 0 (fun _ => true) true t v d p) : ∃ l : List Int, Si W v l := by
 obtain ⟨a1, len, cap, rfl⟩ := okWide_slice hu hval
 obtain ⟨fuel, hf⟩ := h1
 rcases open_ints hu he hc hf with ⟨hcs, hx⟩ | ⟨a, len', cap', zs, hcs, _, hl, hm, hz, hx, hcell, hwz⟩
 ·simp [Value.cells] at hcs
  obtain ⟨rfl, rfl, rfl⟩ := hcs
  exact ⟨[], Si.nil W⟩
 ·simp [Value.cells] at hcs
  obtain ⟨rfl, rfl, rfl⟩ := hcs
  simp only [if_true] at hz
  have hlen : (zs.take len).length = len := by simp; omega
  refine ⟨zs.take len, some a, cap, by rw [hlen], by rw [hlen]; exact hl, fun h => (by cases h), fun h0 => ?_⟩
  rw [hlen] at h0
  obtain ⟨ab, ao, spot⟩ := a
  have hspot : spot = none := by simpa [Addr.add] using World.cell?_spot (hcell 0 (by omega))
  subst hspot
  refine ⟨ab, ao, rfl, fun k hk => ?_⟩
  rw [hlen] at hk
  have hck := hcell k (by omega)
  rw [Addr.add_lit] at hck
  rw [hck]
  have e1 : zs.getD k 0 = ni (zs.take len) k := by
   simp [List.getD, ni, hk]
  rw [e1]
end
end Go.Law

end
section
namespace Hst
open Go Go.Rw
def inB (l : List Int) (y : Int) : Bool := l.any (· == y)
theorem inB_iff {l : List Int} {y : Int} : inB l y = true ↔ ∃ k, k < l.length ∧ ni l k = y := by
 unfold inB
 rw [List.any_eq_true]
 constructor
 ·rintro ⟨x, hx, he⟩
  obtain ⟨k, hk, rfl⟩ := List.getElem_of_mem hx
  exact ⟨k, hk, by simpa [ni, hk] using he⟩
 ·rintro ⟨k, hk, rfl⟩
  exact ⟨l[k], List.getElem_mem hk, by simp [ni, hk]⟩
theorem busy_in {l : List Int} {t : Int} {k : Nat} (hk : k < l.length) (h0 : 0 ≤ ni l k) (h1 : ni l k ≤ t) (h2 : t - 24 < ni l k) : busyB (inB l) t = true := by
 obtain ⟨j, hj⟩ : ∃ j : Nat, t - (j : Int) = ni l k := ⟨(t - ni l k).toNat, by omega⟩
 exact busy_yes (k := j) (by omega) (by omega) (by rw [hj]; exact inB_iff.2 ⟨k, hk, rfl⟩)
theorem busy_out {l : List Int} {t : Int} (h : ∀ k, k < l.length → ¬ (0 ≤ ni l k ∧ ni l k ≤ t ∧ t - 24 < ni l k)) : busyB (inB l) t = false := by
 unfold busyB
 rw [List.any_eq_false]
 intro j hj
 rw [List.mem_range] at hj
 simp only [Bool.and_eq_true, decide_eq_true_eq, not_and]
 intro hjt hin
 obtain ⟨k, hk, he⟩ := inB_iff.1 hin
 exact h k hk (by omega)
end Hst
namespace Go.Proofs.YthjbmggpleliaaaGreatDoor
open Go Go.RowKit Go.Rw Aes Hdr Vlt Hst
set_option maxRecDepth 100000 in
set_option maxHeartbeats 2000000 in
theorem rbusy_any (l : List Int) (hl : l.length ≤ 100000) (v : Value) (t : Int) (ht : 0 ≤ t ∧ t ≤ 1000000) (w : World) (hs : Si w v l) :
  Calls Tryz.prog 34 #[v, .int .i64 t] w fun e w' => e = .returned (.bool (busyB (inB l) t)) ∧ w = w' := by
 obtain ⟨ao, cap, rfl, -, -, hp⟩ := id hs
 have HS := Lib.hid hs
 have HP := Lib.hid hp
 have HN := Lib.hid (And.intro hl ht)
 clear hs hl ht hp
 go_enter Tryz.func34, Tryz.ntmps34
 go_wp2_with fail
 go_loopw [5] (fun v5 wr => ∃ k : Nat, k ≤ l.length ∧ v5 = .int .i64 (k : Nat) ∧ (∀ j : Nat, j < k → ¬ (0 ≤ ni l j ∧ ni l j ≤ t ∧ t - 24 < ni l j)) ∧ w = wr) (fun v5 _ => l.length - (intOf v5).toNat)
 case atStart => exact ⟨0, by omega, rfl, fun j hj => by omega, rfl⟩
 case round =>
  obtain ⟨k, hk, rfl, hj, rfl⟩ := hrel
  have hT := HN.out
  have HJ := Lib.hid hj
  by_cases hke : k = l.length
  case pos =>
   have p1 : decide ((k : Int) < (l.length : Nat)) = false := decide_eq_false (by omega)
   have hres : busyB (inB l) t = false := busy_out fun j hj' => hj j (by omega)
   have HR := Lib.hid hres
   clear hj hres hT hk
   go_wp2_with fail
   go_ret
   exact ⟨by rw [HR.out]; rfl, rfl⟩
  have hkl : k < l.length := by omega
  have p1 : decide ((k : Int) < (l.length : Nat)) = true := decide_eq_true (by omega)
  have p1n : decide (k < l.length) = true := decide_eq_true hkl
  obtain ⟨b, off, rfl, hcell⟩ := HP.out (by omega)
  have c := hcell k (by omega)
  obtain ⟨a, ha⟩ : ∃ a, ni l k = a := ⟨_, rfl⟩
  rw [ha] at c
  obtain ⟨t24, ht24⟩ : ∃ t24, t - 24 = t24 := ⟨_, rfl⟩
  have hw : wrap64 (t - 24) = t24 := (IntWalk.wrap64_in _ (by omega)).trans ht24
  have hw1 : wrap64 ((k : Int) + 1) = (k : Int) + 1 := IntWalk.wrap64_in _ (by omega)
  have HK := Lib.hid (And.intro hk (And.intro hke ha))
  have HW1 := Lib.hid hw1
  have HT24 := Lib.hid ht24
  clear hj hk hke hT hw1 ha hcell ht24
  by_cases q0 : 0 ≤ a
  case neg =>
   have p2 : decide (0 ≤ a) = false := decide_eq_false q0
   go_wp2_with fail
   go_roundw
   case rel =>
    have := HK.out
    refine ⟨k + 1, by omega, by push_cast; rw [HW1.out], fun j hj => ?_, trivial⟩
    by_cases e : j = k
    ·subst e
     have := HT24.out
     clear hw
     omega
    ·exact HJ.out j (by omega)
   case measure => exact meas_up (by have := HK.out; omega) HW1.out
  have p2 : decide (0 ≤ a) = true := decide_eq_true q0
  by_cases q1 : a ≤ t
  case neg =>
   have p3 : decide (a ≤ t) = false := decide_eq_false q1
   go_wp2_with fail
   go_roundw
   case rel =>
    have := HK.out
    refine ⟨k + 1, by omega, by push_cast; rw [HW1.out], fun j hj => ?_, trivial⟩
    by_cases e : j = k
    ·subst e
     have := HT24.out
     clear hw
     omega
    ·exact HJ.out j (by omega)
   case measure => exact meas_up (by have := HK.out; omega) HW1.out
  have p3 : decide (a ≤ t) = true := decide_eq_true q1
  by_cases q2 : t24 < a
  case neg =>
   have p4 : decide (t24 < a) = false := decide_eq_false q2
   go_wp2_with fail
   go_roundw
   case rel =>
    have := HK.out
    refine ⟨k + 1, by omega, by push_cast; rw [HW1.out], fun j hj => ?_, trivial⟩
    by_cases e : j = k
    ·subst e
     have := HT24.out
     clear hw
     omega
    ·exact HJ.out j (by omega)
   case measure => exact meas_up (by have := HK.out; omega) HW1.out
  have p4 : decide (t24 < a) = true := decide_eq_true q2
  go_wp2_with fail
  go_ret
  have := HK.out
  have hres : busyB (inB l) t = true := busy_in (k := k) (by omega) (by omega) (by omega) (by have := HT24.out; omega)
  exact ⟨by rw [hres]; rfl, rfl⟩
set_option maxRecDepth 100000 in
set_option maxHeartbeats 2000000 in
theorem rslot_any (l : List Int) (hl : l.length ≤ 100000) (v : Value) (t : Int) (ht : 0 ≤ t ∧ t ≤ 1000000) (w : World) (hs : Si w v l) :
  Calls Tryz.prog 11 #[.int .i64 0, v, .int .i64 t] w fun e w' => e = .returned (.bool (slotB (0 : Nat) (inB l) t)) ∧ w = w' := by
 obtain ⟨ao, cap, rfl, -⟩ := id hs
 have HB := Lib.hid (rbusy_any l hl _ t ht w hs)
 have p0 : decide (0 ≤ t) = true := decide_eq_true ht.1
 obtain ⟨n, rfl⟩ : ∃ n : Nat, t = (n : Nat) := ⟨t.toNat, by omega⟩
 have HT := Lib.hid ht
 clear hs hl ht
 go_enter Tryz.func11, Tryz.ntmps11
 go_wp2_with fail
 refine HB.out.mono ?_
 rintro e w1 ⟨rfl, rfl⟩
 cases hb : busyB (inB l) (n : Nat)
 ·go_wp2_with fail
  go_ret
  have hw : IntKind.u64.wrap (n : Int) = n := by
   have := HT.out
   simp [IntKind.wrap, IntKind.bits, IntKind.signed]; omega
  refine ⟨?_, rfl⟩
  show Ending.returned (Value.bool ((IntKind.u64.wrap (n : Int)).tmod 4 == 0)) = _
  rw [hw, Int.tmod_eq_emod_of_nonneg (by omega)]
  unfold slotB
  rw [hb, p0]
  simp
 ·go_wp2_with fail
  go_ret
  refine ⟨?_, rfl⟩
  unfold slotB
  rw [hb, p0]
  rfl
end Go.Proofs.YthjbmggpleliaaaGreatDoor

end
section
namespace Go.Proofs.YthjbmggpleliaaaGreatDoor
open Go Go.RowKit Go.Rw Aes Hdr Vlt Hst
set_option maxRecDepth 100000 in
set_option maxHeartbeats 2000000 in
theorem letput_no (w : World) (hg : Glob w) :
  Calls Tryz.prog 22 #[.agg #[.slice none 0 0, .slice none 0 0], .int .i64 7] w fun e w' => e = .returned (.tuple #[.slice none 0 0, .int .i64 13]) ∧ Below w.heap.size w w' := by
 have HG := Lib.hid hg
 clear hg
 go_enter Tryz.func22, Tryz.ntmps22
 go_wp2_with fail
 go_step3
 go_wp2_with fail
 have al := (Below.refl w.heap.size w).alloc (Nat.le_refl _) (.cells #[.slice none 0 0, .slice none 0 0] 37)
 have B0 := Lib.hid al
 clear al
 generalize (w.alloc (.cells #[.slice none 0 0, .slice none 0 0] 37)) = w0 at *
 refine (bucket_any 7 w0 (HG.out.below B0.out)).mono ?_
 rintro e w1 ⟨⟨b, rfl, hb⟩, b1⟩
 obtain rfl : b = false := by
  cases b
  ·rfl
  ·have := hb.1 rfl; omega
 have B1 := Lib.hid (B0.out.trans (b1.mono B0.out.size))
 clear hb b1
 go_wp2_with fail
 rw [Exit.noGoto_ret]
 go_ret2
 exact ⟨rfl, B1.out⟩
set_option maxRecDepth 100000 in
set_option maxHeartbeats 2000000 in
theorem submit_bucket (H L LM N n : Nat) (s : HS) (K T R : List UInt8) (S : Int → Bool) (t : Int) (ht : 0 ≤ t ∧ t ≤ 1000000) (hn : n ≤ 1000000) (w : World) (hi : HI w N H L LM s K T R n S) (hg : Glob w) (hN : 3 ≤ N) :
  Calls Tryz.prog 9 #[.pointer (some ⟨H, 0, none⟩), .int .i64 t, .agg #[.slice none 0 0, .slice none 0 0], .int .i64 7] w fun e w' => e = .returned (.tuple #[.int .i64 0, .int .i64 13]) ∧ HI w' N H L LM s K T R (n + 1) (fun y => y == t || S y) ∧ MutS (fun k => k = LM) w w' := by
 have al := (Below.refl w.heap.size w).alloc (Nat.le_refl _) (.cells #[.slice none 0 0, .slice none 0 0] 37)
 have hlt := hi.hr.lt
 have c12 : w.cell? ⟨H, 12, none⟩ = some (.pointer (some ⟨L, 0, none⟩)) := (hi.hr.c 12).trans (congrArg some hi.as_)
 have HI0 := Lib.hid (hi.below al)
 have HG := Lib.hid (hg.below al)
 have RT0 := Lib.hid (show RT (w.alloc (.cells #[.slice none 0 0, .slice none 0 0] 37)) w.heap.size 37 #[.slice none 0 0, .slice none 0 0] from RT.new w _ _ _ rfl)
 have M0 := Lib.hid (MutS.of_below al : MutS (fun k => k = LM) w _)
 have HT := Lib.hid (And.intro ht (And.intro hn hN))
 clear hi hg al ht hn hN
 go_enter Tryz.func9, Tryz.ntmps9
 go_wp2_with fail
 generalize (w.alloc (.cells #[.slice none 0 0, .slice none 0 0] 37)) = w0 at *
 refine (ask_any L LM (s.role : Nat) n HT.out.2.1 S t HT.out.1 w0 HI0.out.lad).mono ?_
 rintro e w1 ⟨rfl, hl1, m1⟩
 have HI1 := Lib.hid (HI0.out.asked hl1 m1)
 have M1 := Lib.hid (M0.out.trans m1)
 have RT1 := RT.keep m1 RT0.out (RT.neSet RT0.out HI0.out.lad.2)
 have G1 := Lib.hid (HG.out.keep m1 (fun k e => by rw [e]; have := HI0.out.nM; have := HT.out; omega))
 have c0 : w1.cell? ⟨w.heap.size, 0, none⟩ = some (.slice none 0 0) := row?_cell RT1.row 0
 have c1 : w1.cell? ⟨w.heap.size, 1, none⟩ = some (.slice none 0 0) := row?_cell RT1.row 1
 clear hl1 m1 RT1 c12 hlt
 go_wp2_with fail
 refine (letput_no w1 G1.out).mono ?_
 rintro e w2 ⟨rfl, b2⟩
 have HI2 := Lib.hid (HI1.out.below b2)
 have M2 := Lib.hid (M1.out.below' b2)
 clear b2 c0 c1
 go_wp2_with fail
 go_ret2
 exact ⟨rfl, HI2.out, M2.out⟩
end Go.Proofs.YthjbmggpleliaaaGreatDoor

end
section
namespace Go.Proofs.YthjbmggpleliaaaGreatDoor
open Go Go.RowKit Go.Rw Aes Hdr Vlt Hst
theorem Ba.lt {w : World} {N H L LM KN G : Nat} {s : HS} {K T R : List UInt8} {n : Nat} {S : Int → Bool} (h : Ba w N H L LM KN G s K T R n S) : H < w.heap.size ∧ L < w.heap.size ∧ LM < w.heap.size ∧ KN < w.heap.size ∧ G < w.heap.size ∧ N ≤ w.heap.size :=
 ⟨h.hi.hr.lt, h.hi.lad.lt.1, h.hi.lad.lt.2, h.kn.2.lt, h.wn.2.lt, Nat.le_trans h.hi.nH (Nat.le_of_lt h.hi.hr.lt)⟩
theorem TbI.below {w w' : World} {N TB KM n last : Nat} {l : List UInt8} (h : TbI w N TB KM n l last) (hb : Below w.heap.size w w') : TbI w' N TB KM n l last := h.keep (S := fun _ => False) (MutS.of_below hb) (fun _ _ => id)
attribute [local go_sem ↓] ldCf
set_option maxRecDepth 100000 in
set_option maxHeartbeats 4000000 in
theorem pair_any (KS T O : List UInt8) (sv tv ov : Value) (ideal : Bool) (hK : 1 ≤ KS.length ∧ KS.length ≤ 64) (hT : T.length ≤ 300) (hO : O.length ≤ 300) (w : World) (hs : Sl w sv KS) (ht : Sl w tv T) (ho : Sl w ov O) :
  Calls Tryz.prog 6 #[.agg #[sv, .bool ideal, tv, ov]] w fun e w' => ∃ N1 TB KM H L LM KN G s R N2 H' L' LM' KN' G' s' R', e = .returned (.tuple #[.pointer (some ⟨H, 0, none⟩), .pointer (some ⟨H', 0, none⟩)]) ∧ w.heap.size ≤ TB ∧ w.heap.size ≤ KM ∧ TbI w' N1 TB KM 0 O 0 ∧ Ba w' N1 H L LM KN G s KS T R 0 (fun _ => false) ∧ Ba w' N2 H' L' LM' KN' G' s' KS T R' 0 (fun _ => false) ∧ s.role = 0 ∧ s.addr = 0 ∧ s.ideal = ideal ∧ s.table = .pointer (some ⟨TB, 0, none⟩) ∧ s'.role = 1 ∧ N1 ≤ N2 ∧ (H < N2 ∧ L < N2 ∧ LM < N2 ∧ KN < N2 ∧ G < N2) ∧ Below w.heap.size w w' := by
 obtain ⟨sa, sc, rfl, -⟩ := id hs
 obtain ⟨ta, tc, rfl, -⟩ := id ht
 obtain ⟨oa, oc, rfl, -⟩ := id ho
 have al : Below w.heap.size w (w.alloc (.cells #[.slice sa KS.length sc, .bool ideal, .slice ta T.length tc, .slice oa O.length oc] 24)) := (Below.refl _ _).alloc (Nat.le_refl _) _
 have R0 := Lib.hid (show row? (w.alloc (.cells #[.slice sa KS.length sc, .bool ideal, .slice ta T.length tc, .slice oa O.length oc] 24)) w.heap.size = some #[.slice sa KS.length sc, .bool ideal, .slice ta T.length tc, .slice oa O.length oc] from row?_alloc_at _ _ _ _ rfl)
 have HS := Lib.hid (And.intro (hs.below al) (And.intro (ht.below al) (ho.below al)))
 have HN := Lib.hid (And.intro hK (And.intro hT hO))
 have B0 := Lib.hid al
 clear hs ht ho al hK hT hO
 go_enter Tryz.func6, Tryz.ntmps6
 go_upto_region 1 with (fail)
 generalize (w.alloc (.cells #[.slice sa KS.length sc, .bool ideal, .slice ta T.length tc, .slice oa O.length oc] 24)) = w0 at *
 have c3 : w0.cell? ⟨w.heap.size, 3, none⟩ = some (.slice oa O.length oc) := row?_cell R0.out 3
 go_wp2_with fail
 refine (newtable2_any O (by have := HN.out; omega) _ w0 HS.out.2.2).mono ?_
 rintro e w1 ⟨TB, KM, rfl, hTB, hKM, tb1, b1⟩
 have R1 := Lib.hid (Rg.stable_row b1 R0.out)
 have HS1 := Lib.hid (And.intro (HS.out.1.below b1) (HS.out.2.1.below b1))
 have B1 := Lib.hid (B0.out.trans (b1.mono B0.out.size))
 have TB1 := Lib.hid (And.intro tb1 (And.intro (Nat.le_trans B0.out.size hTB) (Nat.le_trans B0.out.size hKM)))
 clear hTB hKM tb1 b1 c3
 go_upto_region 2 with (fail)
 have l1 : (loadAgg 24 (.pointer (some ⟨w.heap.size, 0, none⟩))).run Tryz.prog w1.drew = .ok (.agg #[.slice sa KS.length sc, .bool ideal, .slice ta T.length tc, .slice oa O.length oc]) w1.drew := by
  have := rldCf w1.drew w.heap.size (by rw [show row? w1.drew w.heap.size = _ from R1.out]; rfl); rw [show row? w1.drew w.heap.size = _ from R1.out] at this; exact this
 refine Rg.wp_region_plan (Rg.row [(0, 0), (1, 3), (3, 0), (4, 3), (2, 1), (5, 1), (6, 3), (7, 3)] []) [] (by kernel_rfl) (by kernel_rfl) ?_
 simp only [Rg.row, Rg.PT.map, List.map_nil, List.getD_cons_zero, List.getD_cons_succ]
 go_wp2_with (first
  |(with_reducible refine Rg.plan_pure ?_ ?_ ?_); kernel_rfl; kernel_rfl; intro _ _|(with_reducible refine Rg.plan_take ?_ ?_ ?_); kernel_rfl; kernel_rfl; intro _ _|(with_reducible refine Rg.plan_keep ?_ ?_); kernel_rfl; intro K hK|refine hK _ _ (Rg.Keep.refl _) ?_; clear hK|refine hK _ _ (Rg.Keep.of_below (by assumption)) ?_; clear hK|(with_reducible refine Rg.plan_skip ?_ ?_); kernel_rfl|(with_reducible refine Rg.plan_done ?_)|(with_reducible refine Rg.calm_normal ?_))
 refine (hnew_ba 0 (by omega) _ _ _ (some ⟨TB, 0, none⟩) ideal KS T HN.out.1 HN.out.2.1 w1.drew (show Sl w1.drew _ _ from HS1.out.1) (show Sl w1.drew _ _ from HS1.out.2) (fun _ h => by cases h) ⟨_, _, _, rfl⟩).mono ?_
 rintro e w2 ⟨H, L, LM, KN, G, s, R, rfl, ba2, hro, had, hide, htab, b2⟩
 have R2 := Lib.hid (Rg.stable_row b2 (show row? w1.drew w.heap.size = _ from R1.out))
 have HS2 := Lib.hid (And.intro ((show Sl w1.drew _ _ from HS1.out.1).below b2) ((show Sl w1.drew _ _ from HS1.out.2).below b2))
 have B2 := Lib.hid (B1.out.trans (show Below w.heap.size w1 w2 from ((Below.refl _ w1).drew.trans b2).mono B1.out.size))
 have TB2 := Lib.hid (TB1.out.1.below ((Below.refl _ w1).drew.trans b2))
 have BA2 := Lib.hid (And.intro ba2 (And.intro hro (And.intro had (And.intro hide htab))))
 refine hK _ _ (Rg.Keep.of_below b2) ?_
 clear hK b2 ba2 hro had hide htab l1
 have l1 : (loadAgg 24 (.pointer (some ⟨w.heap.size, 0, none⟩))).run Tryz.prog w2 = .ok (.agg #[.slice sa KS.length sc, .bool ideal, .slice ta T.length tc, .slice oa O.length oc]) w2 := by
  have := rldCf w2 w.heap.size (by rw [R2.out]; rfl); rw [R2.out] at this; exact this
 go_wp2_with (first
  |(with_reducible refine Rg.plan_pure ?_ ?_ ?_); kernel_rfl; kernel_rfl; intro _ _|(with_reducible refine Rg.plan_take ?_ ?_ ?_); kernel_rfl; kernel_rfl; intro _ _|(with_reducible refine Rg.plan_keep ?_ ?_); kernel_rfl; intro K hK|refine hK _ _ (Rg.Keep.refl _) ?_; clear hK|refine hK _ _ (Rg.Keep.of_below (by assumption)) ?_; clear hK|(with_reducible refine Rg.plan_skip ?_ ?_); kernel_rfl|(with_reducible refine Rg.plan_done ?_)|(with_reducible refine Rg.calm_normal ?_))
 refine (hnew_ba 1 (by omega) _ _ _ (some ⟨TB, 0, none⟩) ideal KS T HN.out.1 HN.out.2.1 w2 HS2.out.1 HS2.out.2 (fun _ h => by cases h) ⟨_, _, _, rfl⟩).mono ?_
 rintro e w3 ⟨H', L', LM', KN', G', s', R', rfl, ba3, hro3, had3, hide3, htab3, b3⟩
 have H3 := Lib.hid (And.intro ba3 (And.intro hro3 (And.intro (BA2.out.1.below b3) (And.intro (TB2.out.below b3) (B2.out.trans (b3.mono B2.out.size))))))
 refine hK _ _ (Rg.Keep.of_below b3) ?_
 clear hK b3 ba3 hro3 had3 hide3 htab3 l1
 go_wp2_with (first
  |(with_reducible refine Rg.plan_pure ?_ ?_ ?_); kernel_rfl; kernel_rfl; intro _ _|(with_reducible refine Rg.plan_take ?_ ?_ ?_); kernel_rfl; kernel_rfl; intro _ _|(with_reducible refine Rg.plan_keep ?_ ?_); kernel_rfl; intro K hK|refine hK _ _ (Rg.Keep.refl _) ?_; clear hK|refine hK _ _ (Rg.Keep.of_below (by assumption)) ?_; clear hK|(with_reducible refine Rg.plan_skip ?_ ?_); kernel_rfl|(with_reducible refine Rg.plan_done ?_)|(with_reducible refine Rg.calm_normal ?_))
 go_ret2
 have hlt := BA2.out.1.lt
 exact ⟨_, TB, KM, H, L, LM, KN, G, s, R, _, H', L', LM', KN', G', s', R', rfl, TB1.out.2.1, TB1.out.2.2, H3.out.2.2.2.1, H3.out.2.2.1, H3.out.1, BA2.out.2.1, BA2.out.2.2.1, BA2.out.2.2.2.1, BA2.out.2.2.2.2, H3.out.2.1, hlt.2.2.2.2.2, ⟨hlt.1, hlt.2.1, hlt.2.2.1, hlt.2.2.2.1, hlt.2.2.2.2.1⟩, H3.out.2.2.2.2⟩
end Go.Proofs.YthjbmggpleliaaaGreatDoor

end
section
namespace Go.Proofs.YthjbmggpleliaaaGreatDoor
open Go Go.RowKit Go.Rw Aes Hdr Vlt Hst
theorem HI.keepS {w w' : World} {N H L M n : Nat} {s : HS} {K T R : List UInt8} {A : Int → Bool} {Y : Nat → Prop} (h : HI w N H L M s K T R n A) (m : MutS Y w w') (hH : ¬ Y H) (hL : ¬ Y L) (hM : ¬ Y M) (hO : ∀ {v : Value} {l : List UInt8}, OwnB w N v l → ∀ k, v.ownBlock = some k → ¬ Y k) : HI w' N H L M s K T R n A :=
 ⟨h.hr.keep m hH, h.hk.keep m (hO h.hk), h.ht.keep m (hO h.ht), h.hx.keep m (hO h.hx), h.as_, h.lad.keep m hL hM, h.nH, h.nL, h.nM⟩
structure Ba0 (w : World) (N H L LM KN G : Nat) (s : HS) (K T R : List UInt8) (n : Nat) (S : Int → Bool) : Prop where
 hi : HI w N H L LM s K T R n S
 st : s.cur = .pointer none ∧ s.begun = .slice none 0 0 ∧ s.closing = false ∧ s.dues = .slice none 0 0 ∧ s.used = false
 nb : s.at_ = 32 ∧ s.made = 0 ∧ s.born = 0 ∧ s.ids = 0 ∧ R.length = 32 ∧ K.length ≤ 64 ∧ T.length ≤ 1000
 kn : s.known = .map (some KN) ∧ SetI w Tryz.prog 3 KN 0 (fun _ => false)
 wn : s.went = .map (some G) ∧ NumI w Tryz.prog 3 3 G 0
 ne : KN ≠ G ∧ LM ≠ KN ∧ LM ≠ G ∧ N ≤ G ∧ N ≤ KN
theorem Ba.ba0 {w : World} {N H L LM KN G : Nat} {s : HS} {K T R : List UInt8} {n : Nat} {S : Int → Bool} (h : Ba w N H L LM KN G s K T R n S) : Ba0 w N H L LM KN G s K T R n S :=
 ⟨h.hi, ⟨h.st.1, h.st.2.1, h.st.2.2.1, h.st.2.2.2.1, h.st.2.2.2.2.1⟩, h.nb, h.kn, h.wn, h.ne⟩
theorem connect_cl0 (N H L LM KN G : Nat) (s : HS) (K T R : List UInt8) (n : Nat) (hn : n ≤ 1000000) (S : Int → Bool) (t : Int) (ht : 0 ≤ t ∧ t ≤ 1000000) (hro : s.role = 0) (had : s.addr = 0) (hN : 3 ≤ N) (w : World) (hb : Ba0 w N H L LM KN G s K T R n S) (hg : Glob w) :
  Calls Tryz.prog 8 #[.pointer (some ⟨H, 0, none⟩), .int .i64 t] w fun e w' => ∃ c F Q g cc RN IL D key s', e = .returned (.int .i64 0) ∧ Cl w' N H L LM KN G c F Q g s' cc K T R D RN IL key (n + 1) 0 0 t (fun y => y == t || S y) ∧ s'.table = s.table ∧ s'.ideal = s.ideal ∧ s'.ids = 0 ∧ w.heap.size ≤ c ∧ MutS (fun k => k = H ∨ k = LM) w w' :=
 (connect_first H L LM N n s K T R S t ht hn hro hb.st.2.2.2.2 hb.nb.2.2.2.2.2.1 hb.nb.2.2.2.2.2.2 (by have := hb.nb; omega) (by have := hb.nb; omega) (by have := hb.nb; omega) hb.nb.2.2.2.2.1 hb.st.2.1 had w hb.hi hg hN).mono (by
  rintro e w' ⟨c, F, Q, g, cc, RN, IL, D, key, s', rfl, hci, hD, hRN, hIL, hkey, hi', hcur, hbeg, hused, hcl, hrole, hkn, -, hwn, htab, hide, hids, hadr, -, -, -, hcw, -, -, -, m⟩
  obtain ⟨n1, n2, n3, n4, n5⟩ := hb.ne
  have h1 : ¬ (KN = H ∨ KN = LM) := fun e => e.elim (fun e => RT.neSet hb.hi.hr hb.kn.2 e.symm) (fun e => n2 e.symm)
  have h2 : ¬ (G = H ∨ G = LM) := fun e => e.elim (fun e => RT.neNum hb.hi.hr hb.wn.2 e.symm) (fun e => n3 e.symm)
  exact ⟨c, F, Q, g, cc, RN, IL, D, key, s', rfl, ⟨hi', hci, ⟨hcur, hbeg, hcl.trans hb.st.2.2.1, hrole, hadr, hused⟩, ⟨hkn.trans hb.kn.1, m.setI hb.kn.2 h1⟩, ⟨hwn.trans hb.wn.1, m.numI hb.wn.2 h2⟩, ⟨hD, hRN, hIL, hkey⟩, hb.ne⟩, htab, hide, hids.trans hb.nb.2.2.2.1, hcw, m⟩)
section
variable {w w' : World} {N H L LM KN G c F Q g : Nat} {s : HS} {cc : Array Value} {K T R D RN IL key : List UInt8} {n gn bg : Nat} {last : Int} {S : Int → Bool}
theorem Ba0.keepS {Y : Nat → Prop} (h : Ba0 w N H L LM KN G s K T R n S) (m : MutS Y w w') (hR : ∀ {x : Nat} {U : TypeId} {d : Array Value}, (U = 61 ∨ U = 86 ∨ U = 180 ∨ U = 182 ∨ U = 126) → RT w x U d → ¬ Y x) (hO : ∀ {v : Value} {l : List UInt8}, OwnB w N v l → ∀ k, v.ownBlock = some k → ¬ Y k) (hL : ¬ Y L) (hM : ¬ Y LM) (hK : ¬ Y KN) (hG : ¬ Y G) : Ba0 w' N H L LM KN G s K T R n S :=
 ⟨h.hi.keepS m (hR (.inl rfl) h.hi.hr) hL hM hO, h.st, h.nb, ⟨h.kn.1, m.setI h.kn.2 hK⟩, ⟨h.wn.1, m.numI h.wn.2 hG⟩, h.ne⟩
theorem Cl.keepS {Y : Nat → Prop} (h : Cl w N H L LM KN G c F Q g s cc K T R D RN IL key n gn bg last S) (m : MutS Y w w') (hR : ∀ {x : Nat} {U : TypeId} {d : Array Value}, (U = 61 ∨ U = 86 ∨ U = 180 ∨ U = 182 ∨ U = 126) → RT w x U d → ¬ Y x) (hO : ∀ {v : Value} {l : List UInt8}, OwnB w N v l → ∀ k, v.ownBlock = some k → ¬ Y k) (hL : ¬ Y L) (hM : ¬ Y LM) (hK : ¬ Y KN) (hG : ¬ Y G) : Cl w' N H L LM KN G c F Q g s cc K T R D RN IL key n gn bg last S :=
 ⟨h.hi.keepS m (hR (.inl rfl) h.hi.hr) hL hM hO, h.ci.keep m (fun hT hx => hR (.inr hT) hx) hO, h.st, ⟨h.kn.1, m.setI h.kn.2 hK⟩, ⟨h.wn.1, m.numI h.wn.2 hG⟩, h.ln, h.ne⟩
theorem Cl.after {X : Nat → Prop} (a : Bool) (i b1 gn1 : Nat) (h : Cl w N H L LM KN G c F Q g s cc K T R D RN IL key n gn bg last S) (m : MutS X w w') (hX : ∀ x, X x → x = H ∨ x = c ∨ x = G ∨ x < N) (hr : HR w' H { s with turn := a, ids := i }) (hc : RT w' c 86 ((cc.setIfInBounds 6 (.bool false)).setIfInBounds 276 (.int .u64 (b1 : Nat)))) (hg : NumI w' Tryz.prog 3 3 G gn1) :
  Cl w' N H L LM KN G c F Q g { s with turn := a, ids := i } ((cc.setIfInBounds 6 (.bool false)).setIfInBounds 276 (.int .u64 (b1 : Nat))) K T R D RN IL key n gn1 b1 last S := by
 obtain ⟨q1, q2, q3, q4, q5⟩ := h.ne
 have hn := h.hi.lad.neH h.hi.hr
 have hcz := h.ci.size
 have hO : ∀ {v : Value} {l : List UInt8}, OwnB w N v l → ∀ k, v.ownBlock = some k → ¬ X k := fun ho k e hx => by
  rcases hX _ hx with e' | e' | e' | e'
  ·exact OwnB.ne ho h.hi.hr k e e'
  ·exact own_ne ho h.ci.row (by decide) k e e'
  ·exact own_neNum ho h.wn.2 k e e'
  ·have := (ho.lt k e).1; omega
 have hRT : ∀ {x : Nat} {U : TypeId} {d : Array Value}, N ≤ x → (U = 180 ∨ U = 182 ∨ U = 126) → RT w x U d → ¬ X x := fun hN hT hx hX' => by
  rcases hX _ hX' with e | e | e | e
  ·exact RT.ne hx h.hi.hr (by rcases hT with rfl | rfl | rfl <;> decide) e
  ·exact RT.ne hx h.ci.row (by rcases hT with rfl | rfl | rfl <;> decide) e
  ·exact RT.neNum hx h.wn.2 e
  ·omega
 have hLc : L ≠ c := by
  rintro rfl
  have := h.hi.lad.1.symm.trans h.ci.row.row
  injection this with this
  have := congrArg Array.size this
  rw [hcz] at this
  simp at this
 have hLG : L ≠ G := by
  rintro rfl
  obtain ⟨_, hh⟩ := row?_some h.hi.lad.1
  obtain ⟨D, es, cl, hb, _⟩ := h.wn.2
  rw [hh] at hb; cases hb
 obtain ⟨v0, d0, o0⟩ := h.ci.dst
 obtain ⟨v1, d1, o1⟩ := h.ci.rnd
 obtain ⟨gr, v2, r2, g2, o2⟩ := h.ci.ownr
 obtain ⟨cap, hcap⟩ := h.ci.own
 have sg : ∀ {j : Nat}, j ≠ 6 → j ≠ 276 → ((cc.setIfInBounds 6 (.bool false)).setIfInBounds 276 (.int .u64 (b1 : Nat)))[j]? = cc[j]? := fun h1 h2 => (set_ne' (fun e => h2 e.symm)).trans (set_ne' (fun e => h1 e.symm))
 refine ⟨⟨hr, h.hi.hk.keep m (hO h.hi.hk), h.hi.ht.keep m (hO h.hi.ht), h.hi.hx.keep m (hO h.hi.hx), h.hi.as_, h.hi.lad.keep m (fun hx => ?_) (fun hx => ?_), h.hi.nH, h.hi.nL, h.hi.nM⟩,
  ⟨hc, by simp only [Array.size_setIfInBounds]; exact hcz, ⟨v0, (sg (by omega) (by omega)).trans d0, o0.keep m (hO o0)⟩, ⟨v1, (sg (by omega) (by omega)).trans d1, o1.keep m (hO o1)⟩, (sg (by omega) (by omega)).trans h.ci.addr, (sg (by omega) (by omega)).trans h.ci.last_, (sg (by omega) (by omega)).trans h.ci.met, fun j hj => (sg (by omega) (by omega)).trans (h.ci.keys j hj), set_eq' (by rw [Array.size_setIfInBounds, hcz]; omega), (sg (by omega) (by omega)).trans h.ci.fl, RT.keep m h.ci.flr (hRT h.ci.nF (.inl rfl) h.ci.flr), (sg (by omega) (by omega)).trans h.ci.ck, RT.keep m h.ci.ckr (hRT h.ci.nQ (.inr (.inl rfl)) h.ci.ckr), (sg (by omega) (by omega)).trans h.ci.times, ⟨cap, (sg (by omega) (by omega)).trans hcap⟩, ⟨gr, v2, RT.keep m r2 (hRT h.ci.ng (.inr (.inr rfl)) r2), g2, o2.keep m (hO o2)⟩, h.ci.nc, h.ci.nF, h.ci.nQ, h.ci.ng⟩,
  h.st, ⟨h.kn.1, m.setI h.kn.2 (fun hx => ?_)⟩, ⟨h.wn.1, hg⟩, h.ln, h.ne⟩
 ·have := h.hi.nL
  rcases hX _ hx with e | e | e | e
  ·exact hn.1 e
  ·exact hLc e
  ·exact hLG e
  ·omega
 ·have := h.hi.nM
  rcases hX _ hx with e | e | e | e
  ·exact hn.2 e
  ·exact RT.neSet h.ci.row h.hi.lad.2 e.symm
  ·exact q3 e
  ·omega
 ·rcases hX _ hx with e | e | e | e
  ·exact RT.neSet h.hi.hr h.kn.2 e.symm
  ·exact RT.neSet h.ci.row h.kn.2 e.symm
  ·exact q1 e
  ·omega
end
end Go.Proofs.YthjbmggpleliaaaGreatDoor

end
section
namespace Go.Proofs.YthjbmggpleliaaaGreatDoor
open Go Go.RowKit Go.Rw Aes Hdr Vlt Hst
def Cs (w : World) (N H L LM KN G TB KM B : Nat) (K T R : List UInt8) (con : Bool) (c0 : Int) (t m : Nat) (S : Int → Bool) : Prop :=
 (con = false ∧ ∃ (s : HS) (n : Nat) (O : List UInt8), Ba0 w N H L LM KN G s K T R n S ∧ n ≤ m ∧ s.role = 0 ∧ s.addr = 0 ∧ (s.ideal = true → s.table = .pointer (some ⟨TB, 0, none⟩) ∧ TbI w N TB KM 0 O 0 ∧ O.length ≤ 300)) ∨
 (con = true ∧ ∃ (c F Q g : Nat) (s : HS) (cc : Array Value) (D RN IL key : List UInt8) (n gn bg k lt : Nat) (lo : List UInt8), Cl w N H L LM KN G c F Q g s cc K T R D RN IL key n gn bg c0 S ∧ (n ≤ m ∧ gn ≤ t ∧ bg ≤ t ∧ s.ids ≤ t ∧ B ≤ c) ∧ (s.ideal = true → s.table = .pointer (some ⟨TB, 0, none⟩) ∧ TbI w N TB KM k lo lt ∧ lt ≤ t ∧ k ≤ t ∧ lo.length ≤ 300))
section
variable {w w' : World} {N H L LM KN G TB KM B : Nat} {K T R : List UInt8} {con : Bool} {c0 : Int} {t m : Nat} {S : Int → Bool}
theorem Cs.keepS {Y : Nat → Prop} (h : Cs w N H L LM KN G TB KM B K T R con c0 t m S) (mu : MutS Y w w') (hR : ∀ {x : Nat} {U : TypeId} {d : Array Value}, (U = 61 ∨ U = 86 ∨ U = 180 ∨ U = 182 ∨ U = 126) → RT w x U d → ¬ Y x) (hO : ∀ {v : Value} {l : List UInt8}, OwnB w N v l → ∀ k, v.ownBlock = some k → ¬ Y k) (hL : ¬ Y L) (hM : ¬ Y LM) (hK : ¬ Y KN) (hG : ¬ Y G) (hlow : ∀ k, k < N → ¬ Y k) : Cs w' N H L LM KN G TB KM B K T R con c0 t m S := by
 rcases h with ⟨e, s, n, O, hb, h1, h2, h3, h4⟩ | ⟨e, c, F, Q, g, s, cc, D, RN, IL, key, n, gn, bg, k, lt, lo, hc, h1, h2⟩
 ·exact .inl ⟨e, s, n, O, hb.keepS mu hR hO hL hM hK hG, h1, h2, h3, fun hi => ⟨(h4 hi).1, (h4 hi).2.1.keep mu hlow, (h4 hi).2.2⟩⟩
 ·exact .inr ⟨e, c, F, Q, g, s, cc, D, RN, IL, key, n, gn, bg, k, lt, lo, hc.keepS mu hR hO hL hM hK hG, h1, fun hi => ⟨(h2 hi).1, (h2 hi).2.1.keep mu hlow, (h2 hi).2.2⟩⟩
theorem Cs.below (h : Cs w N H L LM KN G TB KM B K T R con c0 t m S) (hb : Below w.heap.size w w') : Cs w' N H L LM KN G TB KM B K T R con c0 t m S :=
 h.keepS (Y := fun _ => False) (MutS.of_below hb) (fun _ _ => id) (fun _ _ _ => id) id id id id (fun _ _ => id)
theorem Cs.hi (h : Cs w N H L LM KN G TB KM B K T R con c0 t m S) : ∃ s n, HI w N H L LM s K T R n S ∧ n ≤ m ∧ Unready w s := by
 rcases h with ⟨-, s, n, O, hb, h1, -⟩ | ⟨-, c, F, Q, g, s, cc, D, RN, IL, key, n, gn, bg, k, lt, lo, hc, h1, -⟩
 ·exact ⟨s, n, hb.hi, h1, .inl hb.st.1⟩
 ·exact ⟨s, n, hc.hi, h1.1, hc.un⟩
theorem cs_ready (h : Cs w N H L LM KN G TB KM B K T R con c0 t m S) : Calls Tryz.prog 13 #[.pointer (some ⟨H, 0, none⟩)] w fun e w' => e = .returned (.bool false) ∧ w = w' := by
 obtain ⟨s, n, hi, -, hu⟩ := h.hi
 exact ready_un H s w hi.hr hu
theorem cs_connect (h : Cs w N H L LM KN G TB KM B K T R false c0 t m S) (hm : m ≤ 100000) (ht : t ≤ 100000) (hN : 3 ≤ N) (hB : B ≤ w.heap.size) (hg : Glob w) :
  Calls Tryz.prog 8 #[.pointer (some ⟨H, 0, none⟩), .int .i64 (t : Nat)] w fun e w' => e = .returned (.int .i64 0) ∧ Cs w' N H L LM KN G TB KM B K T R true (t : Nat) t (m + 1) (fun y => y == (t : Nat) || S y) ∧ MutS (fun k => k = H ∨ k = LM) w w' := by
 rcases h with ⟨-, s, n, O, hb, h1, h2, h3, h4⟩ | ⟨e, -⟩
 ·refine (connect_cl0 N H L LM KN G s K T R n (by omega) S (t : Nat) (by omega) h2 h3 hN w hb hg).mono ?_
  rintro e w' ⟨c, F, Q, g, cc, RN, IL, D, key, s', rfl, hc, htab, hide, hids, hcw, mu⟩
  refine ⟨rfl, .inr ⟨rfl, c, F, Q, g, s', cc, D, RN, IL, key, n + 1, 0, 0, 0, 0, O, hc, ⟨by omega, by omega, by omega, by omega, by omega⟩, fun hi => ?_⟩, mu⟩
  obtain ⟨q1, q2, q3⟩ := h4 (hide ▸ hi)
  exact ⟨htab.trans q1, q2.keep mu (fun x hx e => by have := hb.hi.nH; have := hb.hi.nM; omega), by omega, by omega, q3⟩
 ·cases e
theorem cs_submit (h : Cs w N H L LM KN G TB KM B K T R con c0 t m S) (hm : m ≤ 100000) (ht : t ≤ 100000) (hN : 3 ≤ N) (hg : Glob w) (body : List UInt8) (hb : body.length < 64) (bv0 : Value) (hs : Sl w bv0 body) (hoff : Off (fun k => k = LM) bv0) :
  Calls Tryz.prog 9 #[.pointer (some ⟨H, 0, none⟩), .int .i64 (t : Nat), .agg #[.slice none 0 0, bv0], .int .i64 512] w fun e w' => e = .returned (.tuple #[.int .i64 0, .int .i64 8]) ∧ Cs w' N H L LM KN G TB KM B K T R con c0 t (m + 1) (fun y => y == (t : Nat) || S y) ∧ MutS (fun k => k = LM) w w' := by
 rcases h with ⟨e, s, n, O, hb0, h1, h2, h3, h4⟩ | ⟨e, c, F, Q, g, s, cc, D, RN, IL, key, n, gn, bg, k, lt, lo, hc, h1, h2⟩
 ·refine (submit_state H L LM N n s K T R S (t : Nat) (by omega) (by omega) 512 (.inr rfl) body hb bv0 w hb0.hi hs hg hN (.inl hb0.st.1) hoff).mono ?_
  rintro e' w' ⟨rfl, hi', mu⟩
  obtain ⟨n1, n2, n3, n4, n5⟩ := hb0.ne
  refine ⟨rfl, .inl ⟨e, s, n + 1, O, ⟨hi', hb0.st, hb0.nb, ⟨hb0.kn.1, mu.setI hb0.kn.2 (fun e => n2 e.symm)⟩, ⟨hb0.wn.1, mu.numI hb0.wn.2 (fun e => n3 e.symm)⟩, hb0.ne⟩, by omega, h2, h3, fun hi => ?_⟩, mu⟩
  exact ⟨(h4 hi).1, (h4 hi).2.1.keep mu (fun x hx e => by have := hb0.hi.nM; omega), (h4 hi).2.2⟩
 ·refine (submit_state H L LM N n s K T R S (t : Nat) (by omega) (by omega) 512 (.inr rfl) body hb bv0 w hc.hi hs hg hN hc.un hoff).mono ?_
  rintro e' w' ⟨rfl, hi', mu⟩
  refine ⟨rfl, .inr ⟨e, c, F, Q, g, s, cc, D, RN, IL, key, n + 1, gn, bg, k, lt, lo, hc.asked hi' mu, ⟨by omega, by omega, by omega, by omega, by omega⟩, fun hi => ?_⟩, mu⟩
  exact ⟨(h2 hi).1, (h2 hi).2.1.keep mu (fun x hx e => by have := hc.hi.nM; omega), (h2 hi).2.2⟩
theorem cs_tick (h : Cs w N H L LM KN G TB KM B K T R con c0 t m S) (ht : t ≤ 250) (hm : m ≤ 100000) (hc0 : con = true → c0 ≤ t ∧ 0 ≤ c0) :
  Calls Tryz.prog 10 #[.pointer (some ⟨H, 0, none⟩), .int .i64 (t : Nat)] w fun e w' => ∃ id_ tt fr ta v l ok, e = .returned (.tuple #[.agg (dgA id_ tt fr ta v), .bool ok]) ∧ ok = (con && slotB (0 : Nat) S (t : Nat)) ∧ (ok = true → l.length = 256 ∧ fr = 0 ∧ ta = 1) ∧ l.length ≤ 256 ∧ OwnB w' w.heap.size v l ∧ MutS (fun x => x = H ∨ x = G ∨ x = TB ∨ x = KM ∨ ∃ cc, RT w x 86 cc ∧ B ≤ x) w w' ∧
   ∀ w'', MutS (fun x => w.heap.size ≤ x) w' w'' → Cs w'' N H L LM KN G TB KM B K T R con c0 (t + 1) m S := by
 have up : ∀ {a b : World}, Below w.heap.size w a → MutS (fun x => w.heap.size ≤ x) a b → Below w.heap.size w b := fun h1 h2 => h1.trans (h2.lower (fun _ h => h) h1.size)
 rcases h with ⟨rfl, s, n, O, hb, h1, h2, h3, h4⟩ | ⟨rfl, c, F, Q, g, s, cc, D, RN, IL, key, n, gn, bg, k, lt, lo, hc, h1, h2⟩
 ·refine (tick_bare H L LM N n s K T R S (t : Nat) (by omega) (by omega) hb.st.1 hb.st.2.1 hb.st.2.2.1 hb.st.2.2.2.1 w hb.hi).mono ?_
  rintro e w' ⟨rfl, b⟩
  refine ⟨0, 0, 0, 0, .slice none 0 0, [], false, rfl, rfl, (fun e => by cases e), by simp, World.ownsRow_nil _ _ _ _, MutS.of_below b, fun w'' mu => ?_⟩
  have hb'' := up b mu
  exact Cs.below (.inl ⟨rfl, s, n, O, hb, h1, h2, h3, h4⟩) hb''
 ·have hcc := hc0 rfl
  cases hsl : slotB (0 : Nat) S (t : Nat)
  ·refine (tick_wait N H L LM KN G c F Q g s cc K T R D RN IL key n gn bg c0 S (t : Nat) (by omega) (by omega) hsl w hc).mono ?_
   rintro e w' ⟨rfl, b⟩
   refine ⟨0, 0, 0, 0, .slice none 0 0, [], false, rfl, rfl, (fun e => by cases e), by simp, World.ownsRow_nil _ _ _ _, MutS.of_below b, fun w'' mu => ?_⟩
   have hb'' := up b mu
   exact Cs.below (.inr ⟨rfl, c, F, Q, g, s, cc, D, RN, IL, key, n, gn, bg, k, lt, lo, hc, ⟨by omega, by omega, by omega, by omega, by omega⟩, fun hi => by
    obtain ⟨q1, q2, q3, q4, q5⟩ := h2 hi
    exact ⟨q1, q2, by omega, by omega, q5⟩⟩) hb''
  ·refine (tick_yes N H L LM KN G c F Q g s cc K T R D RN IL key n gn bg (by omega) (by omega) (by omega) c0 S (t : Nat) (by omega) (by omega) hsl TB KM k lt lo w hc (fun hi => by
    obtain ⟨q1, q2, q3, q4, q5⟩ := h2 hi
    exact ⟨q1, q2, by omega, by omega, by omega⟩)).mono ?_
   rintro e w' ⟨id_, v, l, rfl, hl, ho, hc', htb', mu⟩
   refine ⟨id_, _, 0, 1, v, l, true, rfl, rfl, fun _ => ⟨hl, rfl, rfl⟩, by omega, ho, mu.mono (fun x e => .inl ?_), fun w'' mu2 => ?_⟩
   ·rcases e with e | e | e | ⟨-, e | e⟩
    ·exact .inl e
    ·exact .inr (.inr (.inr (.inr ⟨cc, by rw [e]; exact hc.ci.row, by omega⟩)))
    ·exact .inr (.inl e)
    ·exact .inr (.inr (.inl e))
    ·exact .inr (.inr (.inr (.inl e)))
   ·have hlt := hc.lt
    have mm : MutS (fun x => x = H ∨ x = c ∨ x = G ∨ (s.ideal = true ∧ (x = TB ∨ x = KM))) w w'' := mu.trans' mu2 (fun x e => .inr e)
    refine .inr ⟨rfl, c, F, Q, g, _, _, D, RN, IL, key, n, gn + 1, bg + 1, k + 1, lt + 1, lo.drop 256, hc.after false (s.ids + 1) (bg + 1) (gn + 1) mm (fun x e => ?_) (hc'.hi.hr.keep mu2 (by omega)) (RT.keep mu2 hc'.ci.row (by omega)) (mu2.numI hc'.wn.2 (by omega)), ⟨by omega, by omega, by omega, (by show s.ids + 1 ≤ t + 1; omega), by omega⟩, fun hi => ?_⟩
    ·rcases e with e | e | e | ⟨hi, e⟩
     ·exact .inl e
     ·exact .inr (.inl e)
     ·exact .inr (.inr (.inl e))
     ·have := (h2 hi).2.1.lo
      right; right; right; omega
    ·obtain ⟨q1, q2, q3, q4, q5⟩ := h2 hi
     exact ⟨q1, (htb' hi).keep mu2 (fun x hx e => by omega), by omega, by omega, by simp; omega⟩
end
end Go.Proofs.YthjbmggpleliaaaGreatDoor

end
section
namespace Hst
theorem inB_snoc (l : List Int) (t : Int) : inB (l ++ [t]) = fun y => y == t || inB l y := by
 funext y
 show (l ++ [t]).any (· == y) = (y == t || l.any (· == y))
 rw [List.any_append]
 show (l.any (· == y) || ((t == y) || false)) = _
 rw [Bool.or_false, Bool.or_comm]
 congr 1
 by_cases h : t = y
 ·subst h; rfl
 ·have h' : ¬ y = t := fun e => h e.symm
  rw [beq_eq_false_iff_ne.2 h, beq_eq_false_iff_ne.2 h']
end Hst
namespace Go.Proofs.YthjbmggpleliaaaGreatDoor
open Go Go.RowKit Go.Rw Aes Hdr Vlt Hst
theorem own_RT {w : World} {N n : Nat} {e : TypeId} {v : Value} {xs : List Value} (ho : w.ownsRow N e 1 v n xs) {k : Nat} (hk : v.ownBlock = some k) : ∃ cur, RT w k e cur := by
 rcases ho.2 with ⟨rfl, _⟩ | ⟨g, cap, cur, rfl, hb, hg, _⟩
 ·cases hk
 ·simp [Value.ownBlock] at hk
  subst hk
  exact ⟨cur, hg⟩
section
variable {w w' : World} {N H L LM KN G TB KM B : Nat} {K T R : List UInt8} {con : Bool} {c0 : Int} {t m : Nat} {S : Int → Bool}
theorem Cs.app {v : Value} {n : Nat} {xs : List Value} (h : Cs w N H L LM KN G TB KM B K T R con c0 t m S) (ho : w.ownsRow B 3 1 v n xs) (g : w.grownBy w' v.ownBlock) (hlt : L < B ∧ LM < B ∧ KN < B ∧ G < B ∧ N ≤ B) : Cs w' N H L LM KN G TB KM B K T R con c0 t m S := by
 have lo : ∀ k, v.ownBlock = some k → B ≤ k := fun k e => (ho.lt k e).1
 refine h.keepS (Y := fun k => v.ownBlock = some k) (MutS.of_grown g (fun b e => .inl e)) (fun hU hx e => ?_) (fun ho' k e1 e2 => ?_) (fun e => ?_) (fun e => ?_) (fun e => ?_) (fun e => ?_) (fun k hk e => ?_)
 ·exact own_ne ho hx (by rcases hU with rfl | rfl | rfl | rfl | rfl <;> decide) _ e rfl
 ·obtain ⟨cur, hc⟩ := own_RT ho e2
  exact own_ne ho' hc (by decide) k e1 rfl
 ·have := lo _ e; omega
 ·have := lo _ e; omega
 ·have := lo _ e; omega
 ·have := lo _ e; omega
 ·have := lo _ e; omega
theorem HI.app {s : HS} {M nn : Nat} {v : Value} {n : Nat} {xs : List Value} (h : HI w N H L M s K T R nn S) (ho : w.ownsRow B 3 1 v n xs) (g : w.grownBy w' v.ownBlock) (hlt : L < B ∧ M < B) : HI w' N H L M s K T R nn S := by
 have lo : ∀ k, v.ownBlock = some k → B ≤ k := fun k e => (ho.lt k e).1
 refine h.keepS (Y := fun k => v.ownBlock = some k) (MutS.of_grown g (fun b e => .inl e)) (fun e => ?_) (fun e => ?_) (fun e => ?_) (fun ho' k e1 e2 => ?_)
 ·exact own_ne ho h.hr (by decide) _ e rfl
 ·have := lo _ e; omega
 ·have := lo _ e; omega
 ·obtain ⟨cur, hc⟩ := own_RT ho e2
  exact own_ne ho' hc (by decide) k e1 rfl
theorem Cs.other {s' : HS} {N2 H' L' M' n' : Nat} {K' T' R' : List UInt8} {S' : Int → Bool} (h : Cs w N H L LM KN G TB KM B K T R con c0 t m S) (hi : HI w N2 H' L' M' s' K' T' R' n' S') (mu : MutS (fun k => k = M') w w') (hlt : L < N2 ∧ LM < N2 ∧ KN < N2 ∧ G < N2 ∧ N ≤ N2) : Cs w' N H L LM KN G TB KM B K T R con c0 t m S := by
 have lo := hi.nM
 exact h.keepS mu (fun _ hx => RT.neSet hx hi.lad.2) (fun ho => own_neSet ho hi.lad.2) (by omega) (by omega) (by omega) (by omega) (fun k hk e => by omega)
theorem HI.lowM {s : HS} {M nn : Nat} {Y : Nat → Prop} (h : HI w N H L M s K T R nn S) (mu : MutS Y w w') (hY : ∀ x, Y x → x < N) : HI w' N H L M s K T R nn S :=
 h.keepS mu (fun e => by have := hY _ e; have := h.nH; omega) (fun e => by have := hY _ e; have := h.nL; omega) (fun e => by have := hY _ e; have := h.nM; omega) (fun ho k e1 e2 => by have := hY _ e2; have := (ho.lt k e1).1; omega)
theorem HI.tickM {s : HS} {M nn : Nat} {Y : Nat → Prop} (h : HI w N H L M s K T R nn S) (mu : MutS Y w w') (hY : ∀ x, Y x → x < N ∨ ∃ cc, RT w x 86 cc ∧ B ≤ x) (hlt : L < B) : HI w' N H L M s K T R nn S := by
 refine h.keepS mu (fun e => ?_) (fun e => ?_) (fun e => ?_) (fun ho k e1 e2 => ?_)
 ·rcases hY _ e with e | ⟨cc, hc, -⟩
  ·have := h.nH; omega
  ·exact RT.ne h.hr hc (by decide) rfl
 ·rcases hY _ e with e | ⟨cc, hc, hB⟩
  ·have := h.nL; omega
  ·omega
 ·rcases hY _ e with e | ⟨cc, hc, -⟩
  ·have := h.nM; omega
  ·exact RT.neSet hc h.lad.2 rfl
 ·rcases hY _ e2 with e | ⟨cc, hc, -⟩
  ·have := (ho.lt k e1).1; omega
  ·exact own_ne ho hc (by decide) k e1 rfl
end
end Go.Proofs.YthjbmggpleliaaaGreatDoor

end
section
namespace Go.Proofs.YthjbmggpleliaaaGreatDoor
open Go Go.RowKit Go.Rw Aes Hdr Vlt Hst
theorem buildMs1 (a : Option Addr) (n c : Nat) (w : World) : (buildMs #[(1, .slice a n c)]).run Tryz.prog w = .ok (.agg #[.slice none 0 0, .slice a n c]) w := Go.run_build w _ _ _ (by kernel_rfl)
theorem infoS : (Tryz.prog.info? 3).map (fun i => (i.zero, i.size, i.bytes)) = some (some (.int .i64 0), 1, 8) := by kernel_rfl
attribute [local go_sem ↓] ldDg stDg alDg bdDg bdCf bdMs stMs alMs ldCf
attribute [local go_sem] rldDg rstDg ralDg build39 build390 dg_all buildCf1 buildMs0 buildMs1 rstMs ralMs ms_all setRow_alloc_at setRow_alloc_past setRow_drew
set_option maxRecDepth 100000 in
set_option maxHeartbeats 8000000 in
theorem slotsLaw_any (K T O : List UInt8) (sv tv ov : Value) (ideal : Bool) (connect : Int) (asks : List Int) (va : Value) (w : World) (hs : Sl w sv K) (ht : Sl w tv T) (ho : Sl w ov O) (hk : Si w va asks) (hg : Glob w) :
  Calls Tryz.prog 3 #[.agg #[sv, .bool ideal, tv, ov], .int .i64 connect, va] w fun e w' => e = .returned (.bool true) ∧ Below w.heap.size w w' := by
 obtain ⟨sa, sc, rfl, -⟩ := id hs
 obtain ⟨ta, tc, rfl, -⟩ := id ht
 obtain ⟨oa, oc, rfl, -⟩ := id ho
 obtain ⟨aa, ac, rfl, -⟩ := id hk
 have al : Below w.heap.size w (w.alloc (.cells #[.slice sa K.length sc, .bool ideal, .slice ta T.length tc, .slice oa O.length oc] 24)) := (Below.refl _ _).alloc (Nat.le_refl _) _
 have R0 := Lib.hid (show row? (w.alloc (.cells #[.slice sa K.length sc, .bool ideal, .slice ta T.length tc, .slice oa O.length oc] 24)) w.heap.size = some #[.slice sa K.length sc, .bool ideal, .slice ta T.length tc, .slice oa O.length oc] from row?_alloc_at _ _ _ _ rfl)
 have HS := Lib.hid (And.intro (hs.below al) (And.intro (ht.below al) (ho.below al)))
 have HG := Lib.hid (hg.below al)
 have HK := Lib.hid hk
 have B0 := Lib.hid al
 have HGW := Lib.hid (And.intro hg hg.lt)
 have c0 : (w.alloc (.cells #[.slice sa K.length sc, .bool ideal, .slice ta T.length tc, .slice oa O.length oc] 24)).cell? ⟨w.heap.size, 0, none⟩ = some (.slice sa K.length sc) := row?_cell R0.out 0
 have c2 : (w.alloc (.cells #[.slice sa K.length sc, .bool ideal, .slice ta T.length tc, .slice oa O.length oc] 24)).cell? ⟨w.heap.size, 2, none⟩ = some (.slice ta T.length tc) := row?_cell R0.out 2
 have c3 : (w.alloc (.cells #[.slice sa K.length sc, .bool ideal, .slice ta T.length tc, .slice oa O.length oc] 24)).cell? ⟨w.heap.size, 3, none⟩ = some (.slice oa O.length oc) := row?_cell R0.out 3
 clear hs ht ho hk hg al
 go_enter Tryz.func3, Tryz.ntmps3
 go_upto_region 1 with (fail)
 generalize (w.alloc (.cells #[.slice sa K.length sc, .bool ideal, .slice ta T.length tc, .slice oa O.length oc] 24)) = w0 at *
 by_cases hbig : K.length < 1 ∨ 64 < K.length ∨ 300 < T.length ∨ 300 < O.length ∨ 10 < asks.length
 case pos =>
  go_cut [46] (fun b wx => b = .bool true ∧ wx = w0)
  case first =>
   -- <a>
   by_cases h1 : ((K.length : Nat) : Int) < 1
   ·have p1 : decide (((K.length : Nat) : Int) < 1) = true := decide_eq_true h1
    clear hbig
    go_wp2_with fail
    go_meet
    exact ⟨rfl, rfl⟩
   have p1 : decide (((K.length : Nat) : Int) < 1) = false := decide_eq_false h1
   by_cases h2 : (64 : Int) < (K.length : Nat)
   ·have p2 : decide ((64 : Int) < (K.length : Nat)) = true := decide_eq_true h2
    clear hbig
    go_wp2_with fail
    go_meet
    exact ⟨rfl, rfl⟩
   have p2 : decide ((64 : Int) < (K.length : Nat)) = false := decide_eq_false h2
   by_cases h3 : (300 : Int) < (T.length : Nat)
   ·have p3 : decide ((300 : Int) < (T.length : Nat)) = true := decide_eq_true h3
    clear hbig
    go_wp2_with fail
    go_meet
    exact ⟨rfl, rfl⟩
   have p3 : decide ((300 : Int) < (T.length : Nat)) = false := decide_eq_false h3
   by_cases h4 : (300 : Int) < (O.length : Nat)
   ·have p4 : decide ((300 : Int) < (O.length : Nat)) = true := decide_eq_true h4
    clear hbig
    go_wp2_with fail
    go_meet
    exact ⟨rfl, rfl⟩
   have p4 : decide ((300 : Int) < (O.length : Nat)) = false := decide_eq_false h4
   have h5 : (10 : Int) < (asks.length : Nat) := by omega
   have p5 : decide ((10 : Int) < (asks.length : Nat)) = true := decide_eq_true h5
   clear hbig
   go_wp2_with fail
   go_meet
   exact ⟨rfl, rfl⟩
   -- </a>
  obtain ⟨rfl, rfl⟩ := hcut
  -- <a>
  go_wp2_with fail
  refine (awake25 _ HG.out).mono ?_
  rintro e w1 ⟨rfl, b1⟩
  have B1 := Lib.hid (B0.out.trans (b1.mono B0.out.size))
  clear b1
  go_wp2_with fail
  go_ret
  exact ⟨rfl, B1.out⟩
  -- </a>
 have HB := Lib.hid hbig
 go_cut [46] (fun b wx => b = .bool false ∧ wx = w0)
 case first =>
  -- <a>
  have h1 : ¬ ((K.length : Nat) : Int) < 1 := by omega
  have h2 : ¬ (64 : Int) < (K.length : Nat) := by omega
  have h3 : ¬ (300 : Int) < (T.length : Nat) := by omega
  have h4 : ¬ (300 : Int) < (O.length : Nat) := by omega
  have h5 : ¬ (10 : Int) < (asks.length : Nat) := by omega
  have p1 : decide (((K.length : Nat) : Int) < 1) = false := decide_eq_false h1
  have p2 : decide ((64 : Int) < (K.length : Nat)) = false := decide_eq_false h2
  have p3 : decide ((300 : Int) < (T.length : Nat)) = false := decide_eq_false h3
  have p4 : decide ((300 : Int) < (O.length : Nat)) = false := decide_eq_false h4
  have p5 : decide ((10 : Int) < (asks.length : Nat)) = false := decide_eq_false h5
  clear hbig
  go_wp2_with fail
  go_meet
  exact ⟨rfl, rfl⟩
  -- </a>
 obtain ⟨rfl, rfl⟩ := hcut
 have l1 : (loadAgg 24 (.pointer (some ⟨w.heap.size, 0, none⟩))).run Tryz.prog wc = .ok (.agg #[.slice sa K.length sc, .bool ideal, .slice ta T.length tc, .slice oa O.length oc]) wc := by
  have := rldCf wc w.heap.size (by rw [R0.out]; rfl); rw [R0.out] at this; exact this
 clear hbig c0 c2 c3
 go_wp2_with fail
 refine (pair_any K T O _ _ _ ideal (by have := HB.out; omega) (by have := HB.out; omega) (by have := HB.out; omega) wc HS.out.1 HS.out.2.1 HS.out.2.2).mono ?_
 rintro e w1 ⟨N1, TB, KM, H, L, LM, KN, G, s, R, N2, H', L', LM', KN', G', s', R', rfl, hTB, hKM, tb, ba, ba', hro, had, hide, htab, hro', hN12, hlt, b1⟩
 have B1 := Lib.hid (B0.out.trans (b1.mono B0.out.size))
 have HI0 := Lib.hid (show HI w1 N2 H' L' LM' s' K T R' 0 (fun _ => false) from ba'.hi)
 have ST := Lib.hid (show s'.cur = .pointer none ∧ s'.begun = .slice none 0 0 ∧ s'.closing = false ∧ s'.dues = .slice none 0 0 ∧ s'.role = 1 from ⟨ba'.st.1, ba'.st.2.1, ba'.st.2.2.1, ba'.st.2.2.2.1, hro'⟩)
 have hb1 := ba.lt
 have hb2 := ba'.lt
 have hb3 := ba'.hi.nH
 have hb4 := ba'.hi.nL
 have hb5 := ba'.hi.nM
 have hb6 := ba.hi.nH
 have hb7 := ba.hi.nL
 have hb8 := ba.hi.nM
 have hb9 := ba.ne
 have hb10 := tb.lo
 have hb11 := B0.out.size
 have hb12 := HGW.out.2
 have EV := Lib.hid (show (TB < N1 ∧ KM < N1 ∧ N1 ≤ N2 ∧ w.heap.size ≤ TB ∧ w.heap.size ≤ KM ∧ 3 ≤ N1) ∧ (H < N2 ∧ L < N2 ∧ LM < N2 ∧ KN < N2 ∧ G < N2 ∧ N1 ≤ H ∧ N1 ≤ L ∧ N1 ≤ LM ∧ N1 ≤ KN ∧ N1 ≤ G) ∧ (N2 ≤ H' ∧ N2 ≤ L' ∧ N2 ≤ LM' ∧ H' < w1.heap.size ∧ L' < w1.heap.size ∧ LM' < w1.heap.size) by omega)
 have CS0 := Lib.hid (show Cs w1 N1 H L LM KN G TB KM w1.heap.size K T R false 0 0 0 (inB []) from .inl ⟨rfl, s, 0, O, ba.ba0, Nat.le_refl _, hro, had, fun _ => ⟨htab, tb, by have := HB.out; omega⟩⟩)
 clear hTB hKM tb ba ba' hro had hide htab hro' hN12 hlt b1 hb1 hb2 hb3 hb4 hb5 hb6 hb7 hb8 hb9 hb10 hb11 hb12 l1
 go_wp2_with fail
 refine (low_any connect 50 (by omega) (by omega) w1).mono ?_
 rintro e w2 ⟨rfl, rfl⟩
 have hc50 := low_lt connect 50 (by omega)
 generalize low connect 50 = q at *
 have HQ := Lib.hid hc50
 clear hc50
 go_wp2_with fail
 go_loopw [9, 10] (fun v9 v10 wr => ∃ (t : Nat) (l : List Int) (m n' : Nat) (S' : Int → Bool), t ≤ 250 ∧ v10 = .int .i64 (t : Nat) ∧ wr.ownsRow w1.heap.size 3 1 v9 l.length (l.map iv) ∧ l.length ≤ m ∧ m ≤ 20 * t ∧ Cs wr N1 H L LM KN G TB KM w1.heap.size K T R (decide (q < t)) (q : Nat) t m (inB l) ∧ HI wr N2 H' L' LM' s' K T R' n' S' ∧ n' ≤ m ∧ Below w.heap.size w wr ∧ w1.heap.size ≤ wr.heap.size) (fun _ v10 _ => 250 - (intOf v10).toNat)
 case atStart =>
  have cs0 : Cs w1 N1 H L LM KN G TB KM w1.heap.size K T R (decide (q < 0)) (q : Nat) 0 0 (inB []) := by
   have e : decide (q < 0) = false := decide_eq_false (by omega)
   rw [e]
   rcases CS0.out with ⟨e1, h⟩ | ⟨e1, -⟩
   ·exact .inl ⟨e1, h⟩
   ·cases e1
  exact ⟨0, [], 0, 0, _, by omega, rfl, World.ownsRow_nil _ _ _ _, by simp, by omega, cs0, HI0.out, by omega, B1.out, Nat.le_refl _⟩
 case round =>
  obtain ⟨t, l, m, n', S', ht, rfl, hown, hlm, hm, hcs, hi', hn', hb, hz⟩ := hrel
  by_cases h250 : t = 250
  case pos =>
   -- <a>
   subst h250
   have HCS := Lib.hid hcs
   have HB2 := Lib.hid (And.intro hb (HGW.out.1.below hb))
   clear hown hlm hm hcs hi' hn' hb hz ht
   go_wp2_with fail
   refine (cs_ready HCS.out).mono ?_
   rintro e w3 ⟨rfl, rfl⟩
   go_wp2_with fail
   refine (awake25 wr HB2.out.2).mono ?_
   rintro e w3 ⟨rfl, b3⟩
   have B3 := Lib.hid (HB2.out.1.trans (b3.mono HB2.out.1.size))
   clear b3
   go_wp2_with fail
   go_ret
   exact ⟨rfl, B3.out⟩
   -- </a>
  have p1 : decide ((t : Int) < 250) = true := decide_eq_true (by omega)
  have HW := Lib.hid (And.intro hown (And.intro hcs (And.intro hi' hb)))
  have HM := Lib.hid (And.intro hlm (And.intro hm (And.intro hn' (And.intro hz (And.intro ht h250)))))
  clear hown hlm hm hcs hi' hn' hb hz ht h250
  go_upto_if 67 with (fail)
  go_cut [9] (fun v9' wx => ∃ (l' : List Int) (m' n'' : Nat) (S'' : Int → Bool), wx.ownsRow w1.heap.size 3 1 v9' l'.length (l'.map iv) ∧ l'.length ≤ m' ∧ m' ≤ 20 * t + 1 ∧ Cs wx N1 H L LM KN G TB KM w1.heap.size K T R (decide (q ≤ t)) (q : Nat) t m' (inB l') ∧ HI wx N2 H' L' LM' s' K T R' n'' S'' ∧ n'' ≤ m' ∧ Below w.heap.size w wx ∧ w1.heap.size ≤ wx.heap.size)
  case first =>
   -- <a>
   by_cases htq : t = q
   case neg =>
    have e1 : ((t : Int) == (q : Nat)) = false := by simp; omega
    have e2 : decide (q < t) = decide (q ≤ t) := by rw [decide_eq_decide]; omega
    go_wp2_with fail
    go_meet
    refine ⟨l, m, n', S', HW.out.1, HM.out.1, by have := HM.out; omega, by rw [← e2]; exact HW.out.2.1, HW.out.2.2.1, HM.out.2.2.1, HW.out.2.2.2, HM.out.2.2.2.1⟩
   subst htq
   obtain ⟨i0, hi, hz0, hz1, hz2⟩ := info_parts infoS
   have hE := EV.out
   have hMm := HM.out
   have cs0 : Cs wr N1 H L LM KN G TB KM w1.heap.size K T R false (t : Nat) t m (inB l) := by
    have := HW.out.2.1
    rwa [show decide (t < t) = false from decide_eq_false (by omega)] at this
   obtain ⟨ao, cap, rfl, -⟩ := id (Own.si HW.out.1)
   have CS := Lib.hid (cs_connect cs0 (by omega) (by omega) (by omega) HM.out.2.2.2.1 (HGW.out.1.below HW.out.2.2.2))
   clear hE hMm cs0
   go_wp2_with fail
   refine CS.out.mono ?_
   rintro e w3 ⟨rfl, cs3, m3⟩
   have hE := EV.out
   have hMm := HM.out
   have hi3 := HW.out.2.2.1.lowM m3 (fun x e => by omega)
   have o3 := MutS.own m3 HW.out.1 (fun k e h => by have := (HW.out.1.lt k e).1; omega)
   have B3 := Lib.hid (lowS HW.out.2.2.2 m3 (fun k e => by omega))
   have H3 := Lib.hid (And.intro cs3 (And.intro hi3 (And.intro o3 (Nat.le_trans HM.out.2.2.2.1 m3.size))))
   clear cs3 m3 hi3 o3 CS hE hMm
   go_wp2_with fail
   refine (connect_server H' L' LM' N2 n' s' K T R' S' (t : Nat) (by have := HM.out; omega) (by have := HM.out; omega) ST.out.2.2.2.2 w3 H3.out.2.1).mono ?_
   rintro e w4 ⟨rfl, hi4, m4⟩
   have hE := EV.out
   have cs4 := H3.out.1.other H3.out.2.1 m4 (by omega)
   have o4 := MutS.own m4 H3.out.2.2.1 (own_neSet H3.out.2.2.1 H3.out.2.1.lad.2)
   have B4 := Lib.hid (lowS B3.out m4 (fun k e => by have := H3.out.2.1.nM; omega))
   have H4 := Lib.hid (And.intro cs4 (And.intro hi4 (And.intro o4 (Nat.le_trans H3.out.2.2.2 m4.size))))
   clear cs4 hi4 o4 m4 hE
   go_wp2_with (at_builtin; refine Classical.byContradiction ?_)
   intro hh; apply hh; clear hh
   refine app_si2 rfl _ _ 25 rfl w1.heap.size 3 i0 Tryz.underlying25 hi hz0 hz1 hz2 (.slice ao l.length cap) l rfl (H4.out.2.2.1.alloc _) w4.heap.size 1 [(t : Int)] rfl ?hu ?hlen ?hbase ?_
   case hu =>
    intro k hk
    obtain rfl : k = 0 := by simp at hk; exact hk
    exact row?_cell (row?_alloc_at w4 #[.int .i64 (t : Nat)] _ _ rfl) 0
   case hlen => have := HM.out; simp; omega
   case hbase => have := H4.out.2.2.2; simp; omega
   intro v5 w5 o5 g5 _
   have al : Below w4.heap.size w4 (w4.alloc (.cells #[.int .i64 (t : Nat)] 3)) := (Below.refl _ _).alloc (Nat.le_refl _) _
   have hE := EV.out
   have cs5 := (H4.out.1.below al).app (H4.out.2.2.1.alloc _) g5 (by omega)
   have hi5 := (H4.out.2.1.below al).app (H4.out.2.2.1.alloc _) g5 (by omega)
   have hz5 : w1.heap.size ≤ w5.heap.size := Nat.le_trans H4.out.2.2.2 (Nat.le_trans al.size g5.size)
   have B5 := Lib.hid (lowS (B4.out.trans (al.mono B4.out.size)) (MutS.of_grown (S := fun k => (Value.slice ao l.length cap).ownBlock = some k) g5 (fun b e => .inl e)) (fun k e => by have := (H4.out.2.2.1.lt k e).1; have := B1.out.size; omega))
   rw [← inB_snoc] at cs5
   have H5 := Lib.hid (And.intro cs5 (And.intro hi5 (And.intro o5 hz5)))
   clear cs5 hi5 o5 hz5 g5 al hE
   go_wp2_with fail
   go_meet
   have hle : decide (t ≤ t) = true := decide_eq_true (Nat.le_refl _)
   exact ⟨l ++ [(t : Int)], m + 1, n' + 1, _, H5.out.2.2.1, by have := HM.out; simp; omega, by have := HM.out; omega, by rw [hle]; exact H5.out.1, H5.out.2.1, by have := HM.out; omega, B5.out, H5.out.2.2.2⟩
   -- </a>
  obtain ⟨l1, m1, n1, S1, own1, hlm1, hm1, cs1, hi1, hn1, hb1, hz1⟩ := hcut
  have HW1 := Lib.hid (And.intro own1 (And.intro cs1 (And.intro hi1 hb1)))
  have HM1 := Lib.hid (And.intro hlm1 (And.intro hm1 (And.intro hn1 hz1)))
  have HT0 := Lib.hid (show t < 250 by have := HM.out; omega)
  clear own1 hlm1 hm1 cs1 hi1 hn1 hb1 hz1 HW p1
  go_wp2_with fail
  go_loopw [9, 11] (fun v9 v11 wr => ∃ (k : Nat) (l : List Int) (m n' : Nat) (S' : Int → Bool), k ≤ asks.length ∧ v11 = .int .i64 (k : Nat) ∧ wr.ownsRow w1.heap.size 3 1 v9 l.length (l.map iv) ∧ l.length ≤ m ∧ m ≤ 20 * t + 1 + k ∧ Cs wr N1 H L LM KN G TB KM w1.heap.size K T R (decide (q ≤ t)) (q : Nat) t m (inB l) ∧ HI wr N2 H' L' LM' s' K T R' n' S' ∧ n' ≤ m ∧ Below w.heap.size w wr ∧ w1.heap.size ≤ wr.heap.size) (fun _ v11 _ => asks.length - (intOf v11).toNat)
  case atStart => exact ⟨0, l1, m1, n1, S1, by omega, rfl, HW1.out.1, HM1.out.1, by have := HM1.out; omega, HW1.out.2.1, HW1.out.2.2.1, HM1.out.2.2.1, HW1.out.2.2.2, HM1.out.2.2.2⟩
  case round =>
   clear HW1 HM1 HM
   obtain ⟨k, l, m, n', S', hk, rfl, hown, hlm, hm, hcs, hi', hn', hb, hz⟩ := hrel
   have hKS : Si wr (.slice aa asks.length ac) asks := HK.out.below hb
   have HWI := Lib.hid (And.intro hown (And.intro hcs (And.intro hi' hb)))
   have HMI := Lib.hid (And.intro hlm (And.intro hm (And.intro hn' (And.intro hz hk))))
   clear hown hlm hm hcs hi' hn' hb hz
   by_cases hka : k = asks.length
   case neg =>
    -- <a>
    have hkl : k < asks.length := by omega
    have p2 : decide ((k : Int) < (asks.length : Nat)) = true := decide_eq_true (by omega)
    have p2n : decide (k < asks.length) = true := decide_eq_true hkl
    obtain ⟨ax, cx, ee, -, -, hp⟩ := hKS
    obtain ⟨bb, of_, rfl, hcell⟩ := hp (by omega)
    have hc := hcell k hkl
    injection ee with ea eb ec
    subst ea ec
    obtain ⟨x, hx⟩ : ∃ x, ni asks k = x := ⟨_, rfl⟩
    rw [hx] at hc
    clear hcell hp hx eb
    go_wp2_with fail
    refine (low_any x 250 (by omega) (by omega) wr).mono ?_
    rintro e w3 ⟨rfl, rfl⟩
    generalize low x 250 = y at *
    have hw1 : wrap64 ((k : Int) + 1) = (k : Int) + 1 := IntWalk.wrap64_in _ (by have := HB.out; omega)
    have HW1' := Lib.hid hw1
    have HK1 := Lib.hid hkl
    clear hw1 hkl hk
    by_cases hty : y = t
    case neg =>
     have e1 : ((y : Int) == (t : Nat)) = false := by simp; omega
     go_wp2_with fail
     go_roundw
     case rel => exact ⟨k + 1, l, m, n', S', by have := HK1.out; omega, by push_cast; rw [HW1'.out], HWI.out.1, HMI.out.1, by have := HMI.out; omega, HWI.out.2.1, HWI.out.2.2.1, HMI.out.2.2.1, HWI.out.2.2.2, HMI.out.2.2.2.1⟩
     case measure => exact meas_up (by have := HK1.out; omega) HW1'.out
    subst hty
    obtain ⟨i0, hi, hz0, hz1, hz2⟩ := info_parts infoS
    obtain ⟨ao, cap, rfl, -⟩ := id (Own.si HWI.out.1)
    obtain ⟨bk, hbk⟩ := mod8 ((k : Nat) : Int)
    go_wp2_with fail
    have al : Below wr.heap.size wr (wr.alloc (.cells #[.int .u8 (n8 bk : Nat)] 5)) := (Below.refl _ _).alloc (Nat.le_refl _) _
    have hsl : Sl (wr.alloc (.cells #[.int .u8 (n8 bk : Nat)] 5)) (.slice (some ⟨wr.heap.size, 0, none⟩) 1 1) [bk] := Sl.row (l := [bk]) (row?_alloc_at _ _ _ _ rfl)
    have hE := EV.out
    have hMi := HMI.out
    have cs4 := HWI.out.2.1.below al
    have hi4 := HWI.out.2.2.1.below al
    have o4 := MutS.own (MutS.of_below al : MutS (fun _ => False) wr _) HWI.out.1 (fun _ _ => id)
    have B4 := HWI.out.2.2.2.trans (al.mono HWI.out.2.2.2.size)
    refine (cs_submit cs4 (by have := HT0.out; have := HK1.out; have := HB.out; omega) (by have := HT0.out; omega) (by omega) (HGW.out.1.below B4) [bk] (by simp) _ hsl (fun b off n cap e h0 h => by
     injection e with e1
     injection e1 with e1
     injection e1 with e1
     omega)).mono ?_
    rintro e w5 ⟨rfl, cs5, m5⟩
    have hi5 := hi4.lowM m5 (fun x e => by omega)
    have o5 := MutS.own m5 o4 (fun k e h => by have := (o4.lt k e).1; omega)
    have B5 := Lib.hid (lowS B4 m5 (fun k e => by omega))
    have H5 := Lib.hid (And.intro cs5 (And.intro hi5 (And.intro o5 (Nat.le_trans HMI.out.2.2.2.1 (Nat.le_trans al.size m5.size)))))
    clear al hsl hE hMi cs4 hi4 o4 B4 cs5 hi5 o5 m5
    go_wp2_with fail
    refine (submit_bucket H' L' LM' N2 n' s' K T R' S' (y : Nat) (by have := HT0.out; omega) (by have := HMI.out; have := HT0.out; have := HK1.out; have := HB.out; omega) w5 H5.out.2.1 (HGW.out.1.below B5.out) (by have := EV.out; omega)).mono ?_
    rintro e w6 ⟨rfl, hi6, m6⟩
    have hE := EV.out
    have cs6 := H5.out.1.other H5.out.2.1 m6 (by omega)
    have o6 := MutS.own m6 H5.out.2.2.1 (own_neSet H5.out.2.2.1 H5.out.2.1.lad.2)
    have B6 := Lib.hid (lowS B5.out m6 (fun k e => by have := H5.out.2.1.nM; omega))
    have H6 := Lib.hid (And.intro cs6 (And.intro hi6 (And.intro o6 (Nat.le_trans H5.out.2.2.2 m6.size))))
    clear cs6 hi6 o6 m6 hE
    go_wp2_with (at_builtin; refine Classical.byContradiction ?_)
    intro hh; apply hh; clear hh
    refine app_si2 rfl _ _ 25 rfl w1.heap.size 3 i0 Tryz.underlying25 hi hz0 hz1 hz2 (.slice ao l.length cap) l rfl (H6.out.2.2.1.alloc _) w6.heap.size 1 [(y : Int)] rfl ?hu2 ?hlen2 ?hbase2 ?_
    case hu2 =>
     intro k hk
     obtain rfl : k = 0 := by simp at hk; exact hk
     exact row?_cell (row?_alloc_at w6 #[.int .i64 (y : Nat)] _ _ rfl) 0
    case hlen2 => have := HMI.out; have := HT0.out; have := HK1.out; have := HB.out; simp; omega
    case hbase2 => have := H6.out.2.2.2; simp; omega
    intro v7 w7 o7 g7 _
    have al : Below w6.heap.size w6 (w6.alloc (.cells #[.int .i64 (y : Nat)] 3)) := (Below.refl _ _).alloc (Nat.le_refl _) _
    have hE := EV.out
    have cs7 := (H6.out.1.below al).app (H6.out.2.2.1.alloc _) g7 (by omega)
    have hi7 := (H6.out.2.1.below al).app (H6.out.2.2.1.alloc _) g7 (by omega)
    have hz7 : w1.heap.size ≤ w7.heap.size := Nat.le_trans H6.out.2.2.2 (Nat.le_trans al.size g7.size)
    have B7 := Lib.hid (lowS (B6.out.trans (al.mono B6.out.size)) (MutS.of_grown (S := fun k => (Value.slice ao l.length cap).ownBlock = some k) g7 (fun b e => .inl e)) (fun k e => by have := (H6.out.2.2.1.lt k e).1; have := B1.out.size; omega))
    rw [← inB_snoc] at cs7
    have H7 := Lib.hid (And.intro cs7 (And.intro hi7 (And.intro o7 hz7)))
    clear cs7 hi7 o7 hz7 g7 al hE
    go_wp2_with fail
    go_roundw
    case rel => exact ⟨k + 1, l ++ [(y : Int)], m + 1, n' + 1, _, by have := HK1.out; omega, by push_cast; rw [HW1'.out], H7.out.2.2.1, by have := HMI.out; simp; omega, by have := HMI.out; omega, H7.out.1, H7.out.2.1, by have := HMI.out; omega, B7.out, H7.out.2.2.2⟩
    case measure => exact meas_up (by have := HK1.out; omega) HW1'.out
    -- </a>
   have p2 : decide ((k : Int) < (asks.length : Nat)) = false := decide_eq_false (by omega)
   have p2n : decide (k < asks.length) = false := decide_eq_false (by omega)
   have HKA := Lib.hid hka
   clear hKS hka hk
   obtain ⟨ao, cap, rfl, -⟩ := id (Own.si HWI.out.1)
   go_upto_region 24 with (fail)
   go_cut [16, 17] (fun d ok wx => ∃ (dblk : Nat) (id_ tt fr ta_ : Int) (v : Value) (l' : List UInt8) (okb : Bool), d = .pointer (some ⟨dblk, 0, none⟩) ∧ ok = .bool okb ∧ row? wx dblk = some (dgA id_ tt fr ta_ v) ∧ okb = (decide (q ≤ t) && slotB (0 : Nat) (inB l) (t : Nat)) ∧ (okb = true → l'.length = 256 ∧ fr = 0 ∧ ta_ = 1) ∧ l'.length ≤ 256 ∧ OwnB wx wr.heap.size v l' ∧ wr.heap.size ≤ wx.heap.size ∧
    ∀ w'', MutS (fun x => wr.heap.size ≤ x) wx w'' → Cs w'' N1 H L LM KN G TB KM w1.heap.size K T R (decide (q ≤ t)) (q : Nat) (t + 1) m (inB l) ∧ HI w'' N2 H' L' LM' s' K T R' n' S' ∧ w''.ownsRow w1.heap.size 3 1 (.slice ao l.length cap) l.length (l.map iv) ∧ Below w.heap.size w w'' ∧ w1.heap.size ≤ w''.heap.size)
   case first =>
    -- <a>
    go_wp2_with fail
    refine (cs_tick HWI.out.2.1 (by have := HT0.out; omega) (by have := HMI.out; have := HT0.out; have := HB.out; have := HKA.out; omega) (fun h => by have := of_decide_eq_true h; omega)).mono ?_
    rintro e w3 ⟨id_, tt, fr, ta_, v, l', ok, rfl, hok, h256, hl', ov, mu, F⟩
    obtain ⟨va, vc, rfl, -⟩ := id (OwnB.sl ov)
    have H3 := Lib.hid (And.intro hok (And.intro h256 (And.intro hl' (And.intro ov (And.intro mu F)))))
    clear hok h256 hl' ov mu F
    simp only [dgA]
    go_wp2_with fail
    go_meet
    have al : Below w3.heap.size w3 (w3.alloc (.cells #[.int .i64 id_, .int .i64 tt, .int .i64 fr, .int .i64 ta_, .slice va l'.length vc] 39)) := (Below.refl _ _).alloc (Nat.le_refl _) _
    obtain ⟨hok, h256, hl', ov, mu, F⟩ := H3.out
    refine ⟨w3.heap.size, id_, tt, fr, ta_, _, l', ok, rfl, rfl, row?_alloc_at _ _ _ _ rfl, hok, h256, hl', own_below ov al, Nat.le_trans mu.size al.size, fun w'' m2 => ?_⟩
    have m3 : MutS (fun x => wr.heap.size ≤ x) w3 w'' := (MutS.of_below al).trans m2
    have hE := EV.out
    have hz1 := HMI.out.2.2.2.1
    have hB1 := B1.out.size
    have mm : MutS (fun x => x = H ∨ x = G ∨ x = TB ∨ x = KM ∨ ∃ cc, RT wr x 86 cc ∧ w1.heap.size ≤ x) wr w'' := mu.trans' m3 (fun x e => .inr e)
    refine ⟨F w'' m3, HWI.out.2.2.1.tickM (B := w1.heap.size) mm (fun x e => ?_) (by omega), MutS.own mm HWI.out.1 (fun k e h => ?_), lowS HWI.out.2.2.2 mm (fun x e => ?_), Nat.le_trans hz1 mm.size⟩
    ·rcases e with e | e | e | e | e
     ·left; omega
     ·left; omega
     ·left; omega
     ·left; omega
     ·exact .inr e
    ·have hlo := (HWI.out.1.lt k e).1
     rcases h with h | h | h | h | ⟨cc, hc, -⟩
     ·omega
     ·omega
     ·omega
     ·omega
     ·exact own_ne HWI.out.1 hc (by decide) k e rfl
    ·rcases e with e | e | e | e | ⟨cc, -, hx⟩
     ·omega
     ·omega
     ·omega
     ·omega
     ·omega
    -- </a>
   obtain ⟨dblk, id_, tt, fr, ta_, v, l', okb, rfl, rfl, hrow, hok, h256, hl', ov, hzz, F⟩ := hcut
   obtain ⟨va, vc, rfl, -⟩ := id (OwnB.sl ov)
   have F0 := F wc (MutS.refl _ _)
   have HF := Lib.hid (And.intro hrow (And.intro hok (And.intro h256 (And.intro hl' (And.intro ov (And.intro hzz F))))))
   have HF0 := Lib.hid F0
   clear hrow hok h256 hl' ov hzz F F0
   go_wp2_with fail
   refine (tick_bare H' L' LM' N2 n' s' K T R' S' (t : Nat) (by have := HT0.out; omega) (by rw [ST.out.2.2.2.2]; omega) ST.out.1 ST.out.2.1 ST.out.2.2.1 ST.out.2.2.2.1 wc HF0.out.2.1).mono ?_
   rintro e w5 ⟨rfl, b5⟩
   have B5 := Lib.hid b5
   clear b5
   simp only [dgA]
   go_upto_region 26 with (fail)
   have al : Below w5.heap.size w5 (w5.alloc (.cells #[.int .i64 0, .int .i64 0, .int .i64 0, .int .i64 0, .slice none 0 0] 39)) := (Below.refl _ _).alloc (Nat.le_refl _) _
   have B6 := Lib.hid (B5.out.trans (al.mono B5.out.size))
   clear al
   generalize (w5.alloc (.cells #[.int .i64 0, .int .i64 0, .int .i64 0, .int .i64 0, .slice none 0 0] 39)) = w6 at *
   have R6 := Rg.stable_row B6.out HF.out.1
   have c2 : w6.cell? ⟨dblk, 2, none⟩ = some (.int .i64 fr) := row?_cell R6 2
   have c3 : w6.cell? ⟨dblk, 3, none⟩ = some (.int .i64 ta_) := row?_cell R6 3
   have c4 : w6.cell? ⟨dblk, 4, none⟩ = some (.slice va l'.length vc) := row?_cell R6 4
   have OV := Lib.hid (show OwnB w6 wr.heap.size (.slice va l'.length vc) l' from own_below HF.out.2.2.2.2.1 B6.out)
   have hlt6 : wr.heap.size ≤ w6.heap.size := Nat.le_trans HF.out.2.2.2.2.2.1 B6.out.size
   have HL6 := Lib.hid hlt6
   clear R6 hlt6
   by_cases hqt : q ≤ t
   case neg =>
    have p3 : decide ((q : Int) ≤ (t : Nat)) = false := decide_eq_false (by omega)
    have p3n : decide (q ≤ t) = false := decide_eq_false hqt
    obtain rfl : okb = false := by have := HF.out.2.1; rw [p3n] at this; exact this
    go_wp2_with fail
    refine (over_any l' (by have := HF.out.2.2.2.1; omega) (.slice va l'.length vc) wr.heap.size w6 HL6.out OV.out).mono ?_
    rintro e w7 ⟨rfl, g7⟩
    have m7 : MutS (fun x => wr.heap.size ≤ x) wc w7 := (MutS.of_below B6.out).trans (MutS.of_grown g7 (fun b e => .inl (OV.out.lt b e).1))
    have H7 := Lib.hid (HF.out.2.2.2.2.2.2 w7 m7)
    have hwt := Lib.hid (show wrap64 ((t : Int) + 1) = (t : Int) + 1 from IntWalk.wrap64_in _ (by have := HT0.out; omega))
    clear g7 m7
    go_wp2_with fail
    go_roundw
    case rel =>
     have hd : decide (q < t + 1) = decide (q ≤ t) := by rw [decide_eq_decide]; omega
     exact ⟨t + 1, l, m, n', S', by have := HT0.out; omega, by push_cast; rw [hwt.out], H7.out.2.2.1, HMI.out.1, by have := HMI.out; have := HB.out; have := HKA.out; omega, by rw [hd]; exact H7.out.1, H7.out.2.1, HMI.out.2.2.1, H7.out.2.2.2.1, H7.out.2.2.2.2⟩
    case measure => exact meas_up (by have := HT0.out; omega) hwt.out
   have p3 : decide ((q : Int) ≤ (t : Nat)) = true := decide_eq_true (by omega)
   have p3n : decide (q ≤ t) = true := decide_eq_true hqt
   have hok2 : okb = slotB (0 : Nat) (inB l) (t : Nat) := by have := HF.out.2.1; rw [p3n] at this; exact this
   have HOK := Lib.hid hok2
   clear hok2
   go_wp2_with fail
   refine (rslot_any l (by have := HMI.out; have := HT0.out; have := HB.out; have := HKA.out; omega) _ (t : Nat) (by have := HT0.out; omega) w6 ((Own.si HF0.out.2.2.1).below B6.out)).mono ?_
   rintro e w7 ⟨rfl, rfl⟩
   rw [← HOK.out]
   cases okb
   ·go_wp2_with fail
    refine (over_any l' (by have := HF.out.2.2.2.1; omega) (.slice va l'.length vc) wr.heap.size w6 HL6.out OV.out).mono ?_
    rintro e w7 ⟨rfl, g7⟩
    have m7 : MutS (fun x => wr.heap.size ≤ x) wc w7 := (MutS.of_below B6.out).trans (MutS.of_grown g7 (fun b e => .inl (OV.out.lt b e).1))
    have H7 := Lib.hid (HF.out.2.2.2.2.2.2 w7 m7)
    have hwt := Lib.hid (show wrap64 ((t : Int) + 1) = (t : Int) + 1 from IntWalk.wrap64_in _ (by have := HT0.out; omega))
    clear g7 m7
    go_wp2_with fail
    go_roundw
    case rel =>
     have hd : decide (q < t + 1) = decide (q ≤ t) := by rw [decide_eq_decide]; omega
     exact ⟨t + 1, l, m, n', S', by have := HT0.out; omega, by push_cast; rw [hwt.out], H7.out.2.2.1, HMI.out.1, by have := HMI.out; have := HB.out; have := HKA.out; omega, by rw [hd]; exact H7.out.1, H7.out.2.1, HMI.out.2.2.1, H7.out.2.2.2.1, H7.out.2.2.2.2⟩
    case measure => exact meas_up (by have := HT0.out; omega) hwt.out
   ·obtain ⟨h256, rfl, rfl⟩ := HF.out.2.2.1 rfl
    have q256 : (((l'.length : Nat) : Int) != 256) = false := by rw [h256]; rfl
    clear h256
    go_wp2_with fail
    refine (over_any l' (by have := HF.out.2.2.2.1; omega) (.slice va l'.length vc) wr.heap.size w6 HL6.out OV.out).mono ?_
    rintro e w7 ⟨rfl, g7⟩
    have m7 : MutS (fun x => wr.heap.size ≤ x) wc w7 := (MutS.of_below B6.out).trans (MutS.of_grown g7 (fun b e => .inl (OV.out.lt b e).1))
    have H7 := Lib.hid (HF.out.2.2.2.2.2.2 w7 m7)
    have hwt := Lib.hid (show wrap64 ((t : Int) + 1) = (t : Int) + 1 from IntWalk.wrap64_in _ (by have := HT0.out; omega))
    clear g7 m7
    go_wp2_with fail
    go_roundw
    case rel =>
     have hd : decide (q < t + 1) = decide (q ≤ t) := by rw [decide_eq_decide]; omega
     exact ⟨t + 1, l, m, n', S', by have := HT0.out; omega, by push_cast; rw [hwt.out], H7.out.2.2.1, HMI.out.1, by have := HMI.out; have := HB.out; have := HKA.out; omega, by rw [hd]; exact H7.out.1, H7.out.2.1, HMI.out.2.2.1, H7.out.2.2.2.1, H7.out.2.2.2.2⟩
    case measure => exact meas_up (by have := HT0.out; omega) hwt.out
end Go.Proofs.YthjbmggpleliaaaGreatDoor

end
