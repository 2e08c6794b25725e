/- FrmP5; FrmPut. -/
import Derived.Test.YthjbmggpleliaaaGreatDoorMhb41
import Derived.Test.YthjbmggpleliaaaGreatDoorMhb36
import Derived.Test.YthjbmggpleliaaaGreatDoorMhb4
import Derived.Test.YthjbmggpleliaaaGreatDoorMhb39
import Derived.Test.YthjbmggpleliaaaGreatDoorMhbFrmP2
import Derived.Test.YthjbmggpleliaaaGreatDoorMhb42
import Derived.Test.YthjbmggpleliaaaGreatDoorMhbFrmP4
section
namespace Go.Proofs.YthjbmggpleliaaaGreatDoor
open Go.RowKit Go.Rw Frm Hdr
attribute [local go_sem ↓] ldFF stFF alFF
attribute [local go_sem] rldFF rstFF ralFF setRow_alloc_at setRow_alloc_past setRow_drew
set_option maxRecDepth 100000 in
set_option maxHeartbeats 2000000 in
theorem fput_2 (n d : Nat) (rs : List (Nat × Nat)) (i o : Nat) (fin : Bool) (dat cid tok : List UInt8) (ar ad ac at_ : Option Addr) (er ed ec et : Nat) (hm : mayB 2 n d rs.length (rsOk rs) i o fin dat.length cid.length tok.length = true) (w : World) (hr : Sr w (.slice ar rs.length er) rs) (hd : Sl w (.slice ad dat.length ed) dat) (hc : Sl w (.slice ac cid.length ec) cid) (ht : Sl w (.slice at_ tok.length et) tok) :
  Calls Tryz.prog 124 #[.agg (fvA 2 n d (.slice ar rs.length er) i o fin (.slice ad dat.length ed) (.slice ac cid.length ec) (.slice at_ tok.length et))] w fun e w' => ∃ v', e = .returned v' ∧ w'.ownsRow (w.heap.size + 1) 5 1 v' (Fr.put ⟨2, n, d, rs, i, o, fin, dat, cid, tok⟩).length ((Fr.put ⟨2, n, d, rs, i, o, fin, dat, cid, tok⟩).map bv) ∧ Below w.heap.size w w' := by
 obtain ⟨i0, hi0, hz0, hz1, hz2⟩ := info_parts info8
 have hm2 := hm
 have hpl : (decide (d ≤ 4611686018427387903) && rsOk rs && plainB n 0 0 i o fin dat.length cid.length tok.length) = true := hm2
 rw [Bool.and_eq_true, Bool.and_eq_true, decide_eq_true_eq] at hpl
 have hk := hpl.1.1
 have hok := hpl.1.2
 have pb := plainB_true hpl.2
 have hnc : cid.length ≤ 1000000 := by omega
 have hnt : tok.length ≤ 1000000 := by omega
 have hack := fun v W hs hr' => acked_any [2] (by decide) 2 n d i o fin ar ad ac at_ rs dat.length cid.length tok.length er ed ec et hok hk v W hs hr'
 have hmay := fun W hs' => fmay_any 2 n d i o fin ar ad ac at_ rs.length dat.length cid.length tok.length er ed ec et rs hnc hnt W hs'
 rw [may_eq _ _ _ _ _ _ _ _ _ _ _ rsOk_pos, hm2] at hmay
 have fc := fun (W : World) (b : Nat) (h : row? W b = some (fvA 2 n d (.slice ar rs.length er) i o fin (.slice ad dat.length ed) (.slice ac cid.length ec) (.slice at_ tok.length et))) => fv_cells h
 have hz : (fvA 2 n d (.slice ar rs.length er) i o fin (.slice ad dat.length ed) (.slice ac cid.length ec) (.slice at_ tok.length et)).size = 10 := rfl
 generalize fvA 2 n d (.slice ar rs.length er) i o fin (.slice ad dat.length ed) (.slice ac cid.length ec) (.slice at_ tok.length et) = F at *
 have P0 : PS w F (w.alloc (.cells F 159)) := ⟨row?_alloc_at _ _ _ _ rfl, (Below.refl _ _).alloc (Nat.le_refl _) _⟩
 have lf := rldFF (w.alloc (.cells F 159)) w.heap.size (by rw [P0.row, Option.map_some, hz])
 rw [P0.row] at lf
 have lf' : (loadAgg 159 (.pointer (some ⟨w.heap.size, 0, none⟩))).run Tryz.prog (w.alloc (.cells F 159)) = .ok (.agg F) (w.alloc (.cells F 159)) := lf
 have HMAY := Lib.hid hmay
 have HACK := Lib.hid hack
 have HOK := Lib.hid hok
 have FC := Lib.hid fc
 have HR := Lib.hid hr
 have HD := Lib.hid hd
 have HC := Lib.hid hc
 have HT := Lib.hid ht
 have Q0 := Lib.hid P0
 clear hmay hack hok fc lf hm hm2 P0 hr hd hc ht hpl pb hk
 go_enter Tryz.func124, Tryz.ntmps124
 go_wp2_with fail
 refine (HMAY.out _ (HR.out.below Q0.out.bel)).mono ?_
 rintro e w1 ⟨rfl, b1⟩
 have Q1 := Lib.hid (Q0.out.step b1)
 obtain ⟨c0, c1, c2, c3, c4, c5, c6, c7, c8, c9⟩ := FC.out _ _ Q1.out.row
 clear b1 lf' Q0
 go_wp2_with fail
 refine (vput_any [] 2 (by simp) (by omega) _ _ (Sl.nil _)).mono ?_
 rintro e w2 ⟨v2, rfl, o2, b2⟩
 have e2 : ([] ++ vin 2 (vlen 2) : List UInt8) = [2] := by decide
 obtain ⟨q2, hq2⟩ : ∃ q2 : List UInt8, [2] = q2 := ⟨_, rfl⟩
 have kq2 : q2.length ≤ 1 := by rw [← hq2]; decide
 rw [e2, hq2] at o2
 have Hq2 := Lib.hid hq2
 have O2 := Lib.hid (own_lower o2 Q1.out.size)
 have Q2 := Lib.hid (Q1.out.step b2)
 obtain ⟨a2, x2, rfl, -, -, -⟩ := id (Own.sl o2)
 clear b2 o2 hq2 e2 Q1
 clear c0 c1 c2 c3 c4 c5 c6 c7 c8 c9
 obtain ⟨c0, c1, c2, c3, c4, c5, c6, c7, c8, c9⟩ := FC.out _ _ Q2.out.row
 have lf2 := rldFF w2 w.heap.size (by rw [Q2.out.row, Option.map_some, hz])
 rw [Q2.out.row] at lf2
 have lf2' : (loadAgg 159 (.pointer (some ⟨w.heap.size, 0, none⟩))).run Tryz.prog w2 = .ok (.agg F) w2 := lf2
 clear lf2
 go_wp2_with fail
 have s2 := Own.sl O2.out
 have ql : (Value.slice a2 q2.length x2) = .slice a2 q2.length x2 := rfl
 rw [← Hq2.out] at s2
 have hcall := HACK.out (.slice a2 q2.length x2) w2 (by rw [← Hq2.out]; exact s2) (HR.out.below Q2.out.bel)
 refine hcall.mono ?_
 rintro e w3 ⟨v3, rfl, o3, b3⟩
 have Q3 := Lib.hid (Q2.out.step b3)
 obtain ⟨q3, hq3⟩ : ∃ q3, ([2] ++ ackB d rs ++ ackR rs (rs.length - 1) : List UInt8) = q3 := ⟨_, rfl⟩
 rw [hq3] at o3
 have o3' := own_lower o3 (Nat.le_succ_of_le Q2.out.size)
 have HE := Lib.hid (show q3 = Fr.put ⟨2, n, d, rs, i, o, fin, dat, cid, tok⟩ from hq3.symm)
 have O3 := Lib.hid o3'
 obtain ⟨a3, x3, rfl, -, -, -⟩ := id (Own.sl o3')
 clear b3 o3 o3' hcall s2 ql lf2' hq3
 go_wp2_with fail
 go_ret
 exact ⟨_, rfl, HE.out ▸ O3.out, Q3.out.bel⟩
end Go.Proofs.YthjbmggpleliaaaGreatDoor

end
section
namespace Go.Proofs.YthjbmggpleliaaaGreatDoor
open Go.RowKit Go.Rw Frm Hdr
attribute [local go_sem ↓] ldFF stFF alFF
attribute [local go_sem] rldFF rstFF ralFF setRow_alloc_at setRow_alloc_past setRow_drew
theorem fmay_fr (f : Fr) (hf : f.fits) (v : Value) (w : World) (hv : Fv w v f) :
  Calls Tryz.prog 134 #[v] w fun e w' => e = .returned (.bool f.may) ∧ Below w.heap.size w w' := by
 obtain ⟨vr, vd, vc, vt, rfl, hr, hd, hc, ht⟩ := hv
 obtain ⟨ar, er, rfl, -, -, -⟩ := id hr
 obtain ⟨ad, ed, rfl, -, -, -⟩ := id hd
 obtain ⟨ac, ec, rfl, -, -, -⟩ := id hc
 obtain ⟨at_, et, rfl, -, -, -⟩ := id ht
 have h := fmay_any f.k f.n f.d f.i f.o f.fin ar ad ac at_ f.rs.length f.dat.length f.cid.length f.tok.length er ed ec et f.rs hf.2.2.1 hf.2.2.2 w hr
 rw [may_eq _ _ _ _ _ _ _ _ _ _ _ rsOk_pos] at h
 exact h
set_option maxHeartbeats 1000000 in
theorem fput_no (f : Fr) (hf : f.fits) (hm : f.may = false) (v : Value) (w : World) (hv : Fv w v f) :
  Calls Tryz.prog 124 #[v] w fun e w' => e = .returned (.slice none 0 0) ∧ Below w.heap.size w w' := by
 have hmay := fun W hW => fmay_fr f hf v W hW
 rw [hm] at hmay
 obtain ⟨vr, vd, vc, vt, rfl, hr, hd, hc, ht⟩ := id hv
 have hz : (fvA f.k f.n f.d vr f.i f.o f.fin vd vc vt).size = 10 := rfl
 generalize fvA f.k f.n f.d vr f.i f.o f.fin vd vc vt = F at *
 have P0 : PS w F (w.alloc (.cells F 159)) := ⟨row?_alloc_at _ _ _ _ rfl, (Below.refl _ _).alloc (Nat.le_refl _) _⟩
 have lf := rldFF (w.alloc (.cells F 159)) w.heap.size (by rw [P0.row, Option.map_some, hz])
 rw [P0.row] at lf
 have lf' : (loadAgg 159 (.pointer (some ⟨w.heap.size, 0, none⟩))).run Tryz.prog (w.alloc (.cells F 159)) = .ok (.agg F) (w.alloc (.cells F 159)) := lf
 have HMAY := Lib.hid hmay
 have HV := Lib.hid hv
 have Q0 := Lib.hid P0
 clear hmay lf hv P0 hr hd hc ht hm hf
 go_enter Tryz.func124, Tryz.ntmps124
 go_wp2_with fail
 refine (HMAY.out _ (HV.out.below Q0.out.bel)).mono ?_
 rintro e w1 ⟨rfl, b1⟩
 have Q1 := Lib.hid (Q0.out.step b1)
 clear b1 lf' Q0
 go_wp2_with fail
 go_ret
 exact ⟨rfl, Q1.out.bel⟩
theorem fput_fr (f : Fr) (hf : f.fits) (v : Value) (w : World) (hv : Fv w v f) :
  Calls Tryz.prog 124 #[v] w fun e w' => ∃ v', e = .returned v' ∧ w'.ownsRow w.heap.size 5 1 v' f.laid.length (f.laid.map bv) ∧ Below w.heap.size w w' := by
 cases hm : f.may with
 | false =>
  refine (fput_no f hf hm v w hv).mono fun e w' ⟨he, hb⟩ => ⟨_, he, ?_, hb⟩
  unfold Fr.laid
  rw [hm]
  exact World.ownsRow_nil _ _ _ _
 | true =>
  have e : f.laid = f.put := by unfold Fr.laid; rw [hm]; rfl
  rw [e]
  suffices h : Calls Tryz.prog 124 #[v] w fun e w' => ∃ v', e = .returned v' ∧ w'.ownsRow (w.heap.size + 1) 5 1 v' f.put.length (f.put.map bv) ∧ Below w.heap.size w w' from
   h.mono fun e w' ⟨v', he, ho, hb⟩ => ⟨v', he, own_lower ho (Nat.le_succ _), hb⟩
  obtain ⟨vr, vd, vc, vt, rfl, hr, hd, hc, ht⟩ := hv
  obtain ⟨ar, er, rfl, -, -, -⟩ := id hr
  obtain ⟨ad, ed, rfl, -, -, -⟩ := id hd
  obtain ⟨ac, ec, rfl, -, -, -⟩ := id hc
  obtain ⟨at_, et, rfl, -, -, -⟩ := id ht
  obtain ⟨k, n, d, rs, i, o, fin, dat, cid, tok⟩ := f
  clear e hf
  have hm' : mayB k n d rs.length (rsOk rs) i o fin dat.length cid.length tok.length = true := hm
  simp only [] at hr hd hc ht ⊢
  by_cases h0 : k = 0
  ·subst h0; exact fput_0 n d rs i o fin dat cid tok ar ad ac at_ er ed ec et hm' w hr hd hc ht
  by_cases h1 : k = 1
  ·subst h1; exact fput_1 n d rs i o fin dat cid tok ar ad ac at_ er ed ec et hm' w hr hd hc ht
  by_cases h2 : k = 2
  ·subst h2; exact fput_2 n d rs i o fin dat cid tok ar ad ac at_ er ed ec et hm' w hr hd hc ht
  by_cases h6 : k = 6
  ·subst h6; exact fput_6 n d rs i o fin dat cid tok ar ad ac at_ er ed ec et hm' w hr hd hc ht
  by_cases h8 : k = 8
  ·subst h8
   cases fin
   ·exact fput_8f n d rs i o dat cid tok ar ad ac at_ er ed ec et hm' w hr hd hc ht
   ·exact fput_8t n d rs i o dat cid tok ar ad ac at_ er ed ec et hm' w hr hd hc ht
  by_cases h16 : k = 16
  ·subst h16; exact fput_16 n d rs i o fin dat cid tok ar ad ac at_ er ed ec et hm' w hr hd hc ht
  by_cases h24 : k = 24
  ·subst h24; exact fput_24 n d rs i o fin dat cid tok ar ad ac at_ er ed ec et hm' w hr hd hc ht
  by_cases h25 : k = 25
  ·subst h25; exact fput_25 n d rs i o fin dat cid tok ar ad ac at_ er ed ec et hm' w hr hd hc ht
  by_cases h26 : k = 26
  ·subst h26; exact fput_26 n d rs i o fin dat cid tok ar ad ac at_ er ed ec et hm' w hr hd hc ht
  by_cases h27 : k = 27
  ·subst h27; exact fput_27 n d rs i o fin dat cid tok ar ad ac at_ er ed ec et hm' w hr hd hc ht
  by_cases h28 : k = 28
  ·subst h28; exact fput_28 n d rs i o fin dat cid tok ar ad ac at_ er ed ec et hm' w hr hd hc ht
  by_cases h30 : k = 30
  ·subst h30; exact fput_30 n d rs i o fin dat cid tok ar ad ac at_ er ed ec et hm' w hr hd hc ht
  exfalso
  unfold mayB at hm'
  rw [if_neg h0, if_neg (by omega), if_neg h2, if_neg h6, if_neg h8, if_neg (by omega), if_neg h24, if_neg (by omega)] at hm'
  cases hm'
end Go.Proofs.YthjbmggpleliaaaGreatDoor

end
