/- LibY3; FrmP3. -/
import Derived.Test.YthjbmggpleliaaaGreatDoorMhb18
import Derived.Test.YthjbmggpleliaaaGreatDoorMhb41
import Derived.Test.YthjbmggpleliaaaGreatDoorMhb36
import Derived.Test.YthjbmggpleliaaaGreatDoorMhb4
section
namespace Go.Rg
open Go Go.RowKit Go.Rw
theorem phase_app3 {P : Program} {ops : Array Oper} {Q : Exit → Act → World → Prop} {tail : List Nat} {a0 : Act} {w0 : World} (i1 id i2 : Nat) (d1 dd d2 : Tmp) (J2 J3 J4 : Value → World → Prop)
  (hne : i1 ≠ id ∧ i1 ≠ i2 ∧ id ≠ i2) (N : Nat) (hN : N ≤ w0.heap.size) (v0 u1 u : Value) (l0 m1 m : List UInt8) {t e : TypeId} {i : TypeInfo} (s1 x1 s2 x2 : Operand)
  (ht : P.underlying t = some (.slice e)) (hi : P.info? e = some i) (hz : i.zero = some (.int .u8 0)) (hsz : i.size = 1) (hby : i.bytes = 1)
  (own : w0.ownsRow N e 1 v0 l0.length (l0.map bv)) (src1 : ∀ w', Below N w0 w' → Sl w' u1 m1) (src : ∀ w', Below N w0 w' → Sl w' u m) (hl : l0.length + m1.length + m.length ≤ 1000000)
  (o1 : (ops.toList.getD i1 default).op = .call { callee := .builtin .append, args := #[s1, x1], argTypes := #[t, t] }) (t1 : (ops.toList.getD i1 default).dst = some d1)
  (o2 : (ops.toList.getD i2 default).op = .call { callee := .builtin .append, args := #[s2, x2], argTypes := #[t, t] }) (t2 : (ops.toList.getD i2 default).dst = some d2)
  (e1 : ∀ us, (puts us [⟨i1, d1, [], false, J2⟩, ⟨id, dd, [], false, J3⟩, ⟨i2, d2, [i1, id], false, J4⟩] a0).eval s1 = v0)
  (f1 : ∀ us, (puts us [⟨i1, d1, [], false, J2⟩, ⟨id, dd, [], false, J3⟩, ⟨i2, d2, [i1, id], false, J4⟩] a0).eval x1 = u1)
  (e2 : ∀ us, (puts us [⟨i1, d1, [], false, J2⟩, ⟨id, dd, [], false, J3⟩, ⟨i2, d2, [i1, id], false, J4⟩] a0).eval s2 = us i1)
  (f2 : ∀ us, (puts us [⟨i1, d1, [], false, J2⟩, ⟨id, dd, [], false, J3⟩, ⟨i2, d2, [i1, id], false, J4⟩] a0).eval x2 = us id)
  (hd : ∀ us w (K : Act → World → Prop), Below N w0 w → K ((puts us [⟨i1, d1, [], false, J2⟩, ⟨id, dd, [], false, J3⟩, ⟨i2, d2, [i1, id], false, J4⟩] a0).put (some dd) u) w → (ops.toList.getD id default).wp P (puts us [⟨i1, d1, [], false, J2⟩, ⟨id, dd, [], false, J3⟩, ⟨i2, d2, [i1, id], false, J4⟩] a0) w K NoQ)
  (last : ∀ us w, Below N w0 w → w.ownsRow N e 1 (us i2) (l0 ++ m1 ++ m).length ((l0 ++ m1 ++ m).map bv) → wpList P ops (Calm Q) (tail.map fun i => ops.toList.getD i default) (puts us [⟨i1, d1, [], false, J2⟩, ⟨id, dd, [], false, J3⟩, ⟨i2, d2, [i1, id], false, J4⟩] a0) w)
  {X : List Nat} (hX1 : X.contains i1 = true) (hX2 : X.contains i2 = true) :
  ∃ I, PhaseI P ops Q [⟨i1, d1, [], false, J2⟩, ⟨id, dd, [], false, J3⟩, ⟨i2, d2, [i1, id], false, J4⟩] X tail a0 w0 I := by
 obtain ⟨n4, n5, n6⟩ := hne
 refine ⟨fun L us w' => Below N w0 w' ∧ (L i1 = false → w'.ownsRow N e 1 v0 l0.length (l0.map bv)) ∧ (L i1 = true → L i2 = false → w'.ownsRow N e 1 (us i1) (l0 ++ m1).length ((l0 ++ m1).map bv)) ∧ (L id = true → us id = u) ∧ (L i2 = true → w'.ownsRow N e 1 (us i2) (l0 ++ m1 ++ m).length ((l0 ++ m1 ++ m).map bv)) ∧ (L i2 = true → L i1 = true), ?_, ?_, ?_⟩
 ·intro us
  exact ⟨Below.refl _ _, fun _ => own, by simp, by simp, by simp, by simp⟩
 ·refine List.forall_mem_cons.2 ⟨?_, List.forall_mem_cons.2 ⟨?_, List.forall_mem_cons.2 ⟨?_, fun r hr => (by cases hr)⟩⟩⟩
  ·intro L us w hnot hdep hI K hK
   obtain ⟨hB, k2, k3, k4, k5, k6⟩ := hI
   have hown := k2 hnot
   have hsz' := Nat.le_trans hN hB.size
   refine exec_app s1 x1 o1 ht hi hz hsz hby hsz' (e1 us) hown (f1 us) (src1 _ hB) (by omega) ?_
   intro v' w' h1 h2
   rw [t1]
   have hB' : Below N w w' := (Below.refl _ _).grown h2 hsz' (fun q hq => (hown.lt q hq).1)
   refine hK _ _ ⟨hB.trans hB', ?_, ?_, ?_, ?_, ?_⟩ (.inl hX1)
   ·intro h; simp [updB] at h
   ·intro _ _; simp only [upd, if_true]; exact h1
   ·intro h; simp only [updB, upd, if_neg n4.symm] at h ⊢; exact k4 h
   ·intro h; simp only [updB, upd, if_neg n5.symm] at h ⊢
    have := k6 h
    rw [hnot] at this; cases this
   ·intro _; simp [updB]
  ·intro L us w hnot hdep hI K hK
   obtain ⟨hB, k2, k3, k4, k5, k6⟩ := hI
   refine hd us w K hB (hK _ _ ⟨hB, ?_, ?_, ?_, ?_, ?_⟩ (.inr (Keep.refl _)))
   ·intro h; simp only [updB, if_neg n4] at h ⊢; exact k2 h
   ·intro h h'; simp only [updB, upd, if_neg n4, if_neg n6.symm] at h h' ⊢; exact k3 h h'
   ·intro h; simp only [upd, if_true]
   ·intro h; simp only [updB, upd, if_neg n6.symm] at h ⊢; exact k5 h
   ·intro h; simp only [updB, if_neg n6.symm, if_neg n4] at h ⊢; exact k6 h
  ·intro L us w hnot hdep hI K hK
   obtain ⟨hB, k2, k3, k4, k5, k6⟩ := hI
   have hL1 : L i1 = true := hdep i1 (by simp)
   have hLd : L id = true := hdep id (by simp)
   have hown := k3 hL1 hnot
   have hsz' := Nat.le_trans hN hB.size
   refine exec_app s2 x2 o2 ht hi hz hsz hby hsz' (e2 us) hown (f2 us) (by rw [k4 hLd]; exact src _ hB) (by simp; omega) ?_
   intro v' w' h1 h2
   rw [t2]
   have hB' : Below N w w' := (Below.refl _ _).grown h2 hsz' (fun q hq => (hown.lt q hq).1)
   refine hK _ _ ⟨hB.trans hB', ?_, ?_, ?_, ?_, ?_⟩ (.inl hX2)
   ·intro h; simp only [updB, if_neg n5] at h; rw [hL1] at h; cases h
   ·intro _ h; simp [updB] at h
   ·intro h; simp only [updB, upd, if_neg n6] at h ⊢; exact k4 h
   ·intro _; simp only [upd, if_true]; exact h1
   ·intro _; simp only [updB, if_neg n5]; exact hL1
 ·intro L us w hall hI
  obtain ⟨hB, k2, k3, k4, k5, k6⟩ := hI
  exact last us w hB (k5 (hall ⟨i2, d2, [i1, id], false, J4⟩ (by simp)))
end Go.Rg

end
section
namespace Go.Proofs.YthjbmggpleliaaaGreatDoor
open Go.RowKit Go.Rw Frm Hdr
attribute [local go_sem ↓] ldFF stFF alFF
attribute [local go_sem] rldFF rstFF ralFF setRow_alloc_at setRow_alloc_past setRow_drew
set_option maxRecDepth 100000 in
set_option maxHeartbeats 2000000 in
theorem fput_28 (n d : Nat) (rs : List (Nat × Nat)) (i o : Nat) (fin : Bool) (dat cid tok : List UInt8) (ar ad ac at_ : Option Addr) (er ed ec et : Nat) (hm : mayB 28 n d rs.length (rsOk rs) i o fin dat.length cid.length tok.length = true) (w : World) (hr : Sr w (.slice ar rs.length er) rs) (hd : Sl w (.slice ad dat.length ed) dat) (hc : Sl w (.slice ac cid.length ec) cid) (ht : Sl w (.slice at_ tok.length et) tok) :
  Calls Tryz.prog 124 #[.agg (fvA 28 n d (.slice ar rs.length er) i o fin (.slice ad dat.length ed) (.slice ac cid.length ec) (.slice at_ tok.length et))] w fun e w' => ∃ v', e = .returned v' ∧ w'.ownsRow (w.heap.size + 1) 5 1 v' (Fr.put ⟨28, n, d, rs, i, o, fin, dat, cid, tok⟩).length ((Fr.put ⟨28, n, d, rs, i, o, fin, dat, cid, tok⟩).map bv) ∧ Below w.heap.size w w' := by
 obtain ⟨i0, hi0, hz0, hz1, hz2⟩ := info_parts info8
 have hm2 := hm
 have hpl : (decide (n ≤ 4611686018427387903) && plainB 0 d rs.length i o fin dat.length cid.length tok.length) = true := hm2
 rw [Bool.and_eq_true, decide_eq_true_eq] at hpl
 have hn := hpl.1
 have pb := plainB_true hpl.2
 have hnc : cid.length ≤ 1000000 := by omega
 have hnt : tok.length ≤ 1000000 := by omega
 have hn' : n < 4611686018427387904 := by omega
 have hmay := fun W hs' => fmay_any 28 n d i o fin ar ad ac at_ rs.length dat.length cid.length tok.length er ed ec et rs hnc hnt W hs'
 rw [may_eq _ _ _ _ _ _ _ _ _ _ _ rsOk_pos, hm2] at hmay
 have fc := fun (W : World) (b : Nat) (h : row? W b = some (fvA 28 n d (.slice ar rs.length er) i o fin (.slice ad dat.length ed) (.slice ac cid.length ec) (.slice at_ tok.length et))) => fv_cells h
 have hz : (fvA 28 n d (.slice ar rs.length er) i o fin (.slice ad dat.length ed) (.slice ac cid.length ec) (.slice at_ tok.length et)).size = 10 := rfl
 generalize fvA 28 n d (.slice ar rs.length er) i o fin (.slice ad dat.length ed) (.slice ac cid.length ec) (.slice at_ tok.length et) = F at *
 have P0 : PS w F (w.alloc (.cells F 159)) := ⟨row?_alloc_at _ _ _ _ rfl, (Below.refl _ _).alloc (Nat.le_refl _) _⟩
 have lf := rldFF (w.alloc (.cells F 159)) w.heap.size (by rw [P0.row, Option.map_some, hz])
 rw [P0.row] at lf
 have lf' : (loadAgg 159 (.pointer (some ⟨w.heap.size, 0, none⟩))).run Tryz.prog (w.alloc (.cells F 159)) = .ok (.agg F) (w.alloc (.cells F 159)) := lf
 have HMAY := Lib.hid hmay
 have FC := Lib.hid fc
 have HR := Lib.hid hr
 have HD := Lib.hid hd
 have HC := Lib.hid hc
 have HT := Lib.hid ht
 have Q0 := Lib.hid P0
 clear hmay fc lf hm hm2 P0 hr hd hc ht hpl pb hn
 go_enter Tryz.func124, Tryz.ntmps124
 go_wp2_with fail
 refine (HMAY.out _ (HR.out.below Q0.out.bel)).mono ?_
 rintro e w1 ⟨rfl, b1⟩
 have Q1 := Lib.hid (Q0.out.step b1)
 obtain ⟨c0, c1, c2, c3, c4, c5, c6, c7, c8, c9⟩ := FC.out _ _ Q1.out.row
 clear b1 lf' Q0
 go_wp2_with fail
 refine (vput_any [] 28 (by simp) (by omega) _ _ (Sl.nil _)).mono ?_
 rintro e w2 ⟨v2, rfl, o2, b2⟩
 have e2 : ([] ++ vin 28 (vlen 28) : List UInt8) = [28] := by decide
 obtain ⟨q2, hq2⟩ : ∃ q2 : List UInt8, [28] = q2 := ⟨_, rfl⟩
 have kq2 : q2.length ≤ 1 := by rw [← hq2]; decide
 rw [e2, hq2] at o2
 have Hq2 := Lib.hid hq2
 have O2 := Lib.hid (own_lower o2 Q1.out.size)
 have Q2 := Lib.hid (Q1.out.step b2)
 obtain ⟨a2, x2, rfl, -, -, -⟩ := id (Own.sl o2)
 clear b2 o2 hq2 e2 Q1
 clear c0 c1 c2 c3 c4 c5 c6 c7 c8 c9
 obtain ⟨c0, c1, c2, c3, c4, c5, c6, c7, c8, c9⟩ := FC.out _ _ Q2.out.row
 go_wp2_with fail
 refine (vput_any q2 n (by omega) (by omega) _ _ (Own.sl O2.out)).mono ?_
 rintro e w3 ⟨v3, rfl, o3, b3⟩
 obtain ⟨q3, hq3⟩ : ∃ q3, q2 ++ vin n (vlen n) = q3 := ⟨_, rfl⟩
 have kq3 : q3.length ≤ 9 := by rw [← hq3]; simp only [List.length_append, vin_length]; have := vlen_le n; omega
 rw [hq3] at o3
 have Hq3 := Lib.hid hq3
 have O3 := Lib.hid (own_lower o3 Q2.out.size)
 have Q3 := Lib.hid (Q2.out.step b3)
 obtain ⟨a3, x3, rfl, -, -, -⟩ := id (Own.sl o3)
 clear b3 o3 hq3 Q2 O2
 clear c0 c1 c2 c3 c4 c5 c6 c7 c8 c9
 obtain ⟨c0, c1, c2, c3, c4, c5, c6, c7, c8, c9⟩ := FC.out _ _ Q3.out.row
 have QL := Lib.hid (Q3.out.step ((Below.refl w3.heap.size w3).alloc (Nat.le_refl _) (.cells #[.int .u8 0, .int .u8 0] 5)))
 have OL := Lib.hid (O3.out.alloc (.cells #[.int .u8 0, .int .u8 0] 5))
 have SS := Lib.hid (Sl.row (l := ([0, 0] : List UInt8)) (row?_alloc_at w3 #[.int .u8 0, .int .u8 0] 5 w3.heap.size rfl))
 clear Q3 O3
 go_wp2_with (at_builtin; refine app_sl rfl _ _ 22 rfl (w.heap.size + 1) 5 i0 Tryz.underlying22 hi0 hz0 hz1 hz2 _ _ rfl OL.out _ ([0, 0] : List UInt8) rfl SS.out ?hl4 ?hb4 ?_)
 case hl4 => simp only [List.length_cons, List.length_nil]; omega
 case hb4 => exact QL.out.size
 intro v4 w4 o4 g4
 have Q4 := Lib.hid (QL.out.grown g4 (fun k hk => (OL.out.lt k hk).1))
 obtain ⟨q4, hq4⟩ : ∃ q4, q3 ++ ([0, 0] : List UInt8) = q4 := ⟨_, rfl⟩
 have kq4 : q4.length ≤ 11 := by rw [← hq4]; simp only [List.length_append, List.length_cons, List.length_nil]; omega
 have o4' : w4.ownsRow (w.heap.size + 1) 5 1 v4 (q3 ++ ([0, 0] : List UInt8)).length ((q3 ++ ([0, 0] : List UInt8)).map bv) := by rw [List.length_append, List.map_append]; exact o4
 rw [hq4] at o4'
 have Hq4 := Lib.hid hq4
 have O4 := Lib.hid o4'
 obtain ⟨a4, x4, rfl, -, -, -⟩ := id (Own.sl o4')
 clear o4 o4' g4 hq4 QL OL SS
 clear c0 c1 c2 c3 c4 c5 c6 c7 c8 c9
 obtain ⟨c0, c1, c2, c3, c4, c5, c6, c7, c8, c9⟩ := FC.out _ _ Q4.out.row
 have HE := Lib.hid (show q4 = Fr.put ⟨28, n, d, rs, i, o, fin, dat, cid, tok⟩ by
  rw [← Hq4.out, ← Hq3.out, ← Hq2.out]; rfl)
 go_wp2_with fail
 go_ret
 exact ⟨_, rfl, HE.out ▸ O4.out, Q4.out.bel⟩
set_option maxRecDepth 100000 in
set_option maxHeartbeats 2000000 in
theorem fput_24 (n d : Nat) (rs : List (Nat × Nat)) (i o : Nat) (fin : Bool) (dat cid tok : List UInt8) (ar ad ac at_ : Option Addr) (er ed ec et : Nat) (hm : mayB 24 n d rs.length (rsOk rs) i o fin dat.length cid.length tok.length = true) (w : World) (hr : Sr w (.slice ar rs.length er) rs) (hd : Sl w (.slice ad dat.length ed) dat) (hc : Sl w (.slice ac cid.length ec) cid) (ht : Sl w (.slice at_ tok.length et) tok) :
  Calls Tryz.prog 124 #[.agg (fvA 24 n d (.slice ar rs.length er) i o fin (.slice ad dat.length ed) (.slice ac cid.length ec) (.slice at_ tok.length et))] w fun e w' => ∃ v', e = .returned v' ∧ w'.ownsRow (w.heap.size + 1) 5 1 v' (Fr.put ⟨24, n, d, rs, i, o, fin, dat, cid, tok⟩).length ((Fr.put ⟨24, n, d, rs, i, o, fin, dat, cid, tok⟩).map bv) ∧ Below w.heap.size w w' := by
 obtain ⟨i0, hi0, hz0, hz1, hz2⟩ := info_parts info8
 have hm2 := hm
 have hpl : (decide (n ≤ 4611686018427387903 ∧ cid.length = 8 ∧ tok.length = 16) && plainB 0 d rs.length i o fin dat.length 0 0) = true := hm2
 rw [Bool.and_eq_true, decide_eq_true_eq] at hpl
 have hn := hpl.1.1
 have lc : cid.length ≤ 8 := by omega
 have lt : tok.length ≤ 16 := by omega
 have hnc : cid.length ≤ 1000000 := by omega
 have hnt : tok.length ≤ 1000000 := by omega
 have hn' : n < 4611686018427387904 := by omega
 have hmay := fun W hs' => fmay_any 24 n d i o fin ar ad ac at_ rs.length dat.length cid.length tok.length er ed ec et rs hnc hnt W hs'
 rw [may_eq _ _ _ _ _ _ _ _ _ _ _ rsOk_pos, hm2] at hmay
 have fc := fun (W : World) (b : Nat) (h : row? W b = some (fvA 24 n d (.slice ar rs.length er) i o fin (.slice ad dat.length ed) (.slice ac cid.length ec) (.slice at_ tok.length et))) => fv_cells h
 have hz : (fvA 24 n d (.slice ar rs.length er) i o fin (.slice ad dat.length ed) (.slice ac cid.length ec) (.slice at_ tok.length et)).size = 10 := rfl
 generalize fvA 24 n d (.slice ar rs.length er) i o fin (.slice ad dat.length ed) (.slice ac cid.length ec) (.slice at_ tok.length et) = F at *
 have P0 : PS w F (w.alloc (.cells F 159)) := ⟨row?_alloc_at _ _ _ _ rfl, (Below.refl _ _).alloc (Nat.le_refl _) _⟩
 have lf := rldFF (w.alloc (.cells F 159)) w.heap.size (by rw [P0.row, Option.map_some, hz])
 rw [P0.row] at lf
 have lf' : (loadAgg 159 (.pointer (some ⟨w.heap.size, 0, none⟩))).run Tryz.prog (w.alloc (.cells F 159)) = .ok (.agg F) (w.alloc (.cells F 159)) := lf
 have HMAY := Lib.hid hmay
 have FC := Lib.hid fc
 have HR := Lib.hid hr
 have HD := Lib.hid hd
 have HC := Lib.hid hc
 have HT := Lib.hid ht
 have Q0 := Lib.hid P0
 clear hmay fc lf hm hm2 P0 hr hd hc ht hpl hn
 go_enter Tryz.func124, Tryz.ntmps124
 go_wp2_with fail
 refine (HMAY.out _ (HR.out.below Q0.out.bel)).mono ?_
 rintro e w1 ⟨rfl, b1⟩
 have Q1 := Lib.hid (Q0.out.step b1)
 obtain ⟨c0, c1, c2, c3, c4, c5, c6, c7, c8, c9⟩ := FC.out _ _ Q1.out.row
 clear b1 lf' Q0
 go_wp2_with fail
 refine (vput_any [] 24 (by simp) (by omega) _ _ (Sl.nil _)).mono ?_
 rintro e w2 ⟨v2, rfl, o2, b2⟩
 have e2 : ([] ++ vin 24 (vlen 24) : List UInt8) = [24] := by decide
 obtain ⟨q2, hq2⟩ : ∃ q2 : List UInt8, [24] = q2 := ⟨_, rfl⟩
 have kq2 : q2.length ≤ 1 := by rw [← hq2]; decide
 rw [e2, hq2] at o2
 have Hq2 := Lib.hid hq2
 have O2 := Lib.hid (own_lower o2 Q1.out.size)
 have Q2 := Lib.hid (Q1.out.step b2)
 obtain ⟨a2, x2, rfl, -, -, -⟩ := id (Own.sl o2)
 clear b2 o2 hq2 e2 Q1
 clear c0 c1 c2 c3 c4 c5 c6 c7 c8 c9
 obtain ⟨c0, c1, c2, c3, c4, c5, c6, c7, c8, c9⟩ := FC.out _ _ Q2.out.row
 go_wp2_with fail
 refine (vput_any q2 n (by omega) (by omega) _ _ (Own.sl O2.out)).mono ?_
 rintro e w3 ⟨v3, rfl, o3, b3⟩
 obtain ⟨q3, hq3⟩ : ∃ q3, q2 ++ vin n (vlen n) = q3 := ⟨_, rfl⟩
 have kq3 : q3.length ≤ 9 := by rw [← hq3]; simp only [List.length_append, vin_length]; have := vlen_le n; omega
 rw [hq3] at o3
 have Hq3 := Lib.hid hq3
 have O3 := Lib.hid (own_lower o3 Q2.out.size)
 have Q3 := Lib.hid (Q2.out.step b3)
 obtain ⟨a3, x3, rfl, -, -, -⟩ := id (Own.sl o3)
 clear b3 o3 hq3 Q2 O2
 clear c0 c1 c2 c3 c4 c5 c6 c7 c8 c9
 obtain ⟨c0, c1, c2, c3, c4, c5, c6, c7, c8, c9⟩ := FC.out _ _ Q3.out.row
 have QL := Lib.hid (Q3.out.step ((Below.refl w3.heap.size w3).alloc (Nat.le_refl _) (.cells #[.int .u8 0, .int .u8 8] 5)))
 have OL := Lib.hid (O3.out.alloc (.cells #[.int .u8 0, .int .u8 8] 5))
 have SS := Lib.hid (Sl.row (l := ([0, 8] : List UInt8)) (row?_alloc_at w3 #[.int .u8 0, .int .u8 8] 5 w3.heap.size rfl))
 clear Q3 O3
 go_wp2_with (at_builtin; refine app_sl rfl _ _ 22 rfl (w.heap.size + 1) 5 i0 Tryz.underlying22 hi0 hz0 hz1 hz2 _ _ rfl OL.out _ ([0, 8] : List UInt8) rfl SS.out ?hl4 ?hb4 ?_)
 case hl4 => simp only [List.length_cons, List.length_nil]; omega
 case hb4 => exact QL.out.size
 intro v4 w4 o4 g4
 have Q4 := Lib.hid (QL.out.grown g4 (fun k hk => (OL.out.lt k hk).1))
 obtain ⟨q4, hq4⟩ : ∃ q4, q3 ++ ([0, 8] : List UInt8) = q4 := ⟨_, rfl⟩
 have kq4 : q4.length ≤ 11 := by rw [← hq4]; simp only [List.length_append, List.length_cons, List.length_nil]; omega
 have o4' : w4.ownsRow (w.heap.size + 1) 5 1 v4 (q3 ++ ([0, 8] : List UInt8)).length ((q3 ++ ([0, 8] : List UInt8)).map bv) := by rw [List.length_append, List.map_append]; exact o4
 rw [hq4] at o4'
 have Hq4 := Lib.hid hq4
 have O4 := Lib.hid o4'
 obtain ⟨a4, x4, rfl, -, -, -⟩ := id (Own.sl o4')
 clear o4 o4' g4 hq4 QL OL SS
 clear c0 c1 c2 c3 c4 c5 c6 c7 c8 c9
 obtain ⟨c0, c1, c2, c3, c4, c5, c6, c7, c8, c9⟩ := FC.out _ _ Q4.out.row
 go_wp2_with fail
 refine Rg.wp_region_inv [(0, 3), (1, 3), (2, 0), (4, 3)] [⟨3, 71, [], false, fun _ _ => True⟩, ⟨5, 73, [], false, fun _ _ => True⟩, ⟨6, 74, [3, 5], false, fun _ _ => True⟩] [(3, 71, []), (5, 73, []), (6, 74, [3, 5])] [3, 6, 7] [7] (by kernel_rfl) (by kernel_rfl) rfl (by kernel_rfl) ?_
 simp only [Rg.row, Rg.PT.map, List.getD_cons_zero, List.getD_cons_succ]
 go_wp2_with (first
  |(with_reducible refine Rg.plan_pure ?_ ?_ ?_); kernel_rfl; kernel_rfl; intro _ _|(with_reducible refine Rg.plan_take ?_ ?_ ?_); kernel_rfl; kernel_rfl; intro _ _|(with_reducible refine Rg.plan_keep ?_ ?_); kernel_rfl; intro K hK|refine hK _ _ (Rg.Keep.refl _) ?_; clear hK|refine hK _ _ (Rg.Keep.of_below (by assumption)) ?_; clear hK|(with_reducible refine Rg.plan_skip ?_ ?_); kernel_rfl|(with_reducible refine Rg.plan_done ?_)|(with_reducible refine Rg.calm_normal ?_))
 have HCB : ∀ w', Below (w.heap.size + 1) w4.drew w' → Sl w' (.slice ac cid.length ec) cid := fun w' h => HC.out.below (Q4.out.drew.bel.trans (h.mono (Nat.le_succ _)))
 have HTB : ∀ w', Below (w.heap.size + 1) w4.drew w' → Sl w' (.slice at_ tok.length et) tok := fun w' h => HT.out.below (Q4.out.drew.bel.trans (h.mono (Nat.le_succ _)))
 have O4d := O4.out.drew
 have S4d := Q4.out.drew.size
 refine Rg.phase_app3 (w0 := w4.drew) 3 5 6 71 73 74 (fun _ _ => True) (fun _ _ => True) (fun _ _ => True) (by decide) (w.heap.size + 1) S4d (.slice a4 q4.length x4) (.slice ac cid.length ec) (.slice at_ tok.length et) q4 cid tok (.tmp 68) (.tmp 70) (.tmp 71) (.tmp 73) Tryz.underlying22 hi0 hz0 hz1 hz2 O4d HCB HTB (by omega) (by kernel_rfl) (by kernel_rfl) (by kernel_rfl) (by kernel_rfl) (fun us => by kernel_rfl) (fun us => by kernel_rfl) (fun us => by kernel_rfl) (fun us => by kernel_rfl) ?_ ?_ rfl rfl
 ·intro us wx K hB hK
  have r := Rg.row_below hB Q4.out.drew.row (by omega)
  have c := (FC.out _ _ r).2.2.2.2.2.2.2.2.2
  exact Rg.exec_value (v := .slice at_ tok.length et) (w' := wx) (by simp [go_sem, execOp, Rg.puts, c]) hK
 ·intro us w5 hB o5
  have B5 := Lib.hid (Q4.out.drew.bel.trans (hB.mono (Nat.le_succ _)))
  simp only [Rg.puts, List.map_cons, List.map_nil]
  generalize us 3 = y3
  generalize us 5 = y5
  generalize us 6 = v5 at *
  obtain ⟨q5, hq5⟩ : ∃ q5, q4 ++ cid ++ tok = q5 := ⟨_, rfl⟩
  rw [hq5] at o5
  obtain ⟨a5, x5, rfl, -, -, -⟩ := id (Own.sl o5)
  have O5 := Lib.hid o5
  have Hq5 := Lib.hid hq5
  have HE := Lib.hid (show q5 = Fr.put ⟨24, n, d, rs, i, o, fin, dat, cid, tok⟩ by
   rw [← Hq5.out, ← Hq4.out, ← Hq3.out, ← Hq2.out]; rfl)
  clear hB o5 hq5 HCB HTB O4d S4d Q4 O4
  go_wp2_with (first
   |(with_reducible refine Rg.plan_pure ?_ ?_ ?_); kernel_rfl; kernel_rfl; intro _ _|(with_reducible refine Rg.plan_take ?_ ?_ ?_); kernel_rfl; kernel_rfl; intro _ _|(with_reducible refine Rg.plan_keep ?_ ?_); kernel_rfl; intro K hK|refine hK _ _ (Rg.Keep.refl _) ?_; clear hK|refine hK _ _ (Rg.Keep.of_below (by assumption)) ?_; clear hK|(with_reducible refine Rg.plan_skip ?_ ?_); kernel_rfl|(with_reducible refine Rg.plan_done ?_)|(with_reducible refine Rg.calm_normal ?_))
  go_ret
  exact ⟨_, rfl, HE.out ▸ O5.out, B5.out⟩
end Go.Proofs.YthjbmggpleliaaaGreatDoor

end
