/- The walks of package header's reader: a name; a number that tells its own length. -/
import Derived.Test.YtjlpppnpdgenfaaMvb4
import Derived.Test.YtjlpppnpdgenfaaMvbLibX
namespace Hdr
open Go.Rw
theorem rtake_le (b : List UInt8) (n : Nat) (s : Nat × Int) (h : s.1 ≤ b.length) : (rtake b n s).1.1 ≤ b.length := by
 unfold rtake
 repeat' split
 all_goals simp only []
 all_goals omega
theorem rnum_le (b : List UInt8) (n : Nat) (s : Nat × Int) (h : s.1 ≤ b.length) : (rnum b n s).1.1 ≤ b.length := rtake_le b n s h
theorem rfail_at (is : Bool) (x : Int) (s : Nat × Int) : (rfail is x s).1 = s.1 := by unfold rfail; split <;> rfl
theorem rtake_len (b : List UInt8) (n : Nat) (s : Nat × Int) : (rtake b n s).2.length ≤ n := by
 unfold rtake; repeat' split
 all_goals simp
 omega
theorem rnum_lt (b : List UInt8) (n : Nat) (s : Nat × Int) : (rnum b n s).2 < 256 ^ n :=
 Nat.lt_of_lt_of_le (Go.Proofs.Ytjlpppnpdgenfaa.num_lt _) (Nat.pow_le_pow_right (by decide) (rtake_len b n s))
theorem rid_le (b : List UInt8) (l m : Nat) (s : Nat × Int) (h : s.1 ≤ b.length) : (rid b l m s).1.1 ≤ b.length :=
 rtake_le b _ _ (by rw [rfail_at]; exact rnum_le b 1 s h)
theorem rvar_le (b : List UInt8) (s : Nat × Int) (h : s.1 ≤ b.length) : (rvar b s).1.1 ≤ b.length := by
 unfold rvar
 split
 ·exact h
 ·have := vget_many (b.drop s.1)
  rw [List.length_drop] at this
  simp only []
  omega
theorem vget_lt (l : List UInt8) : (vget l).1 < 18446744073709551616 := by
 unfold vget
 split
 ·decide
 ·show vnum l < _
  unfold vnum
  refine Nat.lt_of_lt_of_le (Go.Proofs.Ytjlpppnpdgenfaa.fold_lt _ _) ?_
  have h1 : ((l.take (vmany (nth l 0))).drop 1).length ≤ 7 := by
   have := vmany_le (nth l 0)
   rw [List.length_drop, List.length_take]; omega
  have h2 : n8 (nth l 0) % 64 + 1 ≤ 64 := by omega
  exact Nat.le_trans (Nat.mul_le_mul h2 (Nat.pow_le_pow_right (n := 256) (by decide) h1)) (by decide)
theorem rvar_lt (b : List UInt8) (s : Nat × Int) : (rvar b s).2 < 18446744073709551616 := by
 unfold rvar
 split
 ·show (0 : Nat) < _
  decide
 ·exact vget_lt _
end Hdr
namespace Go.Proofs.Ytjlpppnpdgenfaa
open Go.RowKit Go.Rw Hdr
set_option maxRecDepth 100000 in
set_option maxHeartbeats 1000000 in
theorem rid_any (b : List UInt8) (w0 w : World) (B : Nat) (vb : Value) (s : Nat × Int) (least most : Nat) (hb : b.length ≤ 1000000) (hat : s.1 ≤ b.length) (hs : Sl w0 vb b) (hw : Below w0.heap.size w0 w) (hB : w0.heap.size ≤ B) (hr : row? w B = some (rd vb s)) :
  Calls Try.prog 81 #[.pointer (some ⟨B, 0, none⟩), .int .i64 (least : Nat), .int .i64 (most : Nat)] w fun e w' => ∃ v, e = .returned v ∧ w'.ownsRow w.heap.size 5 1 v (rid b least most s).2.length ((rid b least most s).2.map bv) ∧ Mut B w w' ∧ row? w' B = some (rd vb (rid b least most s).1) := by
 unfold rid
 obtain ⟨i0, hi, hz0, hz1, hz2⟩ := info_parts info8
 have hsz := hw.size
 have hn := rnumber_any b w0 w B vb s 1 hb (by decide) hat hs hw hB hr
 have hlt := rnum_lt b 1 s
 have hle := rnum_le b 1 s hat
 generalize rnum b 1 s = q at *
 obtain ⟨s1, n⟩ := q
 simp only [] at hn hlt hle ⊢
 clear hr hat
 obtain ⟨fl, hfl⟩ : ∃ fl, (decide (n < least) || decide (most < n)) = fl := ⟨_, rfl⟩
 rw [hfl]
 obtain ⟨s2, hs2⟩ : ∃ s2, rfail fl 5 s1 = s2 := ⟨_, rfl⟩
 rw [hs2]
 have hle2 : s2.1 ≤ b.length := by rw [← hs2, rfail_at]; exact hle
 obtain ⟨q, hq⟩ : ∃ q, rtake b n s2 = q := ⟨_, rfl⟩
 have hll : q.2.length ≤ 255 := by have := rtake_len b n s2; rw [hq] at this; omega
 rw [hq]
 obtain ⟨s3, l⟩ := q
 simp only [] at hll ⊢
 have HF := Lib.hid hfl
 have HL := Lib.hid hll
 have HS2 := Lib.hid hs2
 have HQ := Lib.hid hq
 clear hfl hs2 hq hll
 go_enter Try.func81, Try.ntmps81
 go_wp2_with fail
 refine hn.mono ?_
 rintro e w1 ⟨rfl, m1, r1⟩
 have hw1 : Below w0.heap.size w0 w1 := hw.trans (m1.below hB hsz)
 have R1 := Lib.hid r1
 clear r1 hn
 have hn1 : wrap64 ((n : Nat) : Int) = n := by unfold wrap64; omega
 by_cases g1 : n < least
 all_goals by_cases g2 : most < n
 all_goals
  have hf := HF.out
  simp only [g1, g2, decide_true, decide_false, Bool.or_true, Bool.or_false, Bool.or_self] at hf
  subst hf
  clear HF
  go_wp2_with fail
  refine (fail_any w1 B vb s1 _ 5 R1.out).mono ?_
  rintro e w2 ⟨rfl, m2, r2⟩
  rw [HS2.out] at r2
  have m12 : Mut B w w2 := m1.trans m2
  have hw2 : Below w0.heap.size w0 w2 := hw.trans (m12.below hB hsz)
  have hz2' := m12.size
  clear m1 m2 R1 hw1 g1 g2
  have R2 := Lib.hid r2
  clear r2
  go_wp2_with fail
  refine (take_any b w0 w2 B vb s2 n hb (by omega) hle2 hs hw2 hB R2.out).mono ?_
  rintro e w3 ⟨v0, rfl, sv, m3, r3⟩
  have m13 : Mut B w w3 := m12.trans m3
  have hw3 : Below w0.heap.size w0 w3 := hw.trans (m13.below hB hsz)
  rw [HQ.out] at sv r3
  have sv3 : Sl w3 v0 l := sv.below hw3
  have SV := Lib.hid sv3
  have R3 := Lib.hid r3
  clear sv sv3 m12 m3 hw2 R2 r3 hz2'
  go_wp2_with (at_builtin; refine app_sl rfl _ _ 27 rfl w3.heap.size 5 i0 Try.underlying27 hi hz0 hz1 hz2 (.slice none 0 0) [] rfl (World.ownsRow_nil _ _ _ _) v0 l rfl SV.out (by have := HL.out; simp; omega) (Nat.le_refl _) ?_)
  intro v' w4 hown4 hgrow4
  have m4 : Mut B w3 w4 := Mut.of_below ((Below.refl _ _).grown hgrow4 (Nat.le_refl _) (by intro k hk; cases hk))
  have m14 : Mut B w w4 := m13.trans m4
  have hB3 := row?_lt R3.out
  have r4 : row? w4 B = some (rd vb s3) := row_grown hgrow4 R3.out (by simp [Value.ownBlock])
  have own4 := own_lower hown4 m13.size
  have O4 := Lib.hid own4
  have R4 := Lib.hid r4
  clear hown4 hgrow4 own4 r4 m4 R3 SV
  go_wp2_with fail
  go_ret
  exact ⟨_, rfl, O4.out, m14, R4.out⟩
theorem cfVget (args : Array Value) (w : World) : (callFunc 92 args).run Try.prog w = .ok (.enter 92 args) w := by simp [go_sem]
set_option maxRecDepth 100000 in
set_option maxHeartbeats 1000000 in
theorem rvar_any (b : List UInt8) (w0 w : World) (B : Nat) (vb : Value) (s : Nat × Int) (hb : b.length ≤ 1000000) (hat : s.1 ≤ b.length) (hs : Sl w0 vb b) (hw : Below w0.heap.size w0 w) (_hB : w0.heap.size ≤ B) (hr : row? w B = some (rd vb s)) :
  Calls Try.prog 82 #[.pointer (some ⟨B, 0, none⟩)] w fun e w' => e = .returned (.int .u64 ((rvar b s).2 : Nat)) ∧ Mut B w w' ∧ row? w' B = some (rd vb (rvar b s).1) := by
 obtain ⟨at_, er⟩ := s
 have c0 := row?_cell hr 0
 have c1 := row?_cell hr 1
 have c2 := row?_cell hr 2
 rw [rd_0] at c0
 rw [rd_1] at c1
 rw [rd_2] at c2
 have HR := Lib.hid hr
 simp only [] at hat
 obtain ⟨ao, cap, rfl, hc, hnn, hp⟩ := id hs
 clear hr hnn hp
 by_cases he : er = 0
 ·subst he
  have hv := vget_any (b.drop at_) (by rw [List.length_drop]; omega)
  have hsc := hs.cut at_ b.length hat (Nat.le_refl _)
  rw [List.take_length] at hsc
  have hvar : rvar b (at_, 0) = ((at_ + (vget (b.drop at_)).2.1, (vget (b.drop at_)).2.2), (vget (b.drop at_)).1) := by unfold rvar; rw [if_neg (by simp)]
  rw [hvar]
  have hm8 := vget_many8 (b.drop at_)
  generalize vget (b.drop at_) = q at *
  obtain ⟨n, many, x⟩ := q
  simp only [] at hv hm8 ⊢
  have hcut : ∀ W, (Instr.sliceAt 27 (.slice ao b.length cap) (some (.int .i64 (at_ : Nat))) none none).run Try.prog W = .ok (.slice (cutA ao at_ cap) (b.length - at_) (cap - at_)) W := fun W => by
   rw [cut_l TB W _ _ _ _ _ (by omega) (by omega), Int.toNat_natCast]
  have HV := Lib.hid hv
  have SC := Lib.hid hsc
  have hsz := hw.size
  clear hv hsc hvar
  go_enter Try.func82, Try.ntmps82
  go_wp2_with fail
  refine Rg.wp_region_flo [(0, 3), (1, 3), (2, 3), (3, 0), (4, 3), (5, 3), (6, 3), (7, 0), (8, 3)] [
    ⟨9, 21, [], false, fun v _ => v = .tuple #[.int .u64 (n : Nat), .int .i64 (many : Nat), .int .i64 x]⟩,
    ⟨10, 11, [9], false, fun v _ => v = .tuple #[.int .u64 (n : Nat), .int .i64 (many : Nat), .int .i64 x]⟩,
    ⟨11, 22, [10], false, fun v _ => v = .int .u64 (n : Nat)⟩,
    ⟨12, 23, [10], false, fun v _ => v = .int .i64 (many : Nat)⟩,
    ⟨13, 24, [10], false, fun v _ => v = .int .i64 x⟩,
    ⟨14, 3, [9, 10, 11], false, fun v _ => v = .int .u64 (n : Nat)⟩,
    ⟨15, 4, [9, 10, 11, 12, 14], false, fun v _ => v = .int .i64 (many : Nat)⟩,
    ⟨16, 5, [9, 10, 11, 12, 13, 14, 15], false, fun v _ => v = .int .i64 x⟩] [(9, 21, []), (10, 11, [9]), (11, 22, [10]), (12, 23, [10]), (13, 24, [10]), (14, 3, [9, 10, 11]), (15, 4, [9, 10, 11, 12, 14]), (16, 5, [9, 10, 11, 12, 13, 14, 15])] [] (by kernel_rfl) (by kernel_rfl) rfl ?_
  simp only [Rg.row, Rg.PT.map, List.getD_cons_zero, List.getD_cons_succ]
  go_wp2_with (first
   |(with_reducible refine Rg.plan_pure ?_ ?_ ?_); kernel_rfl; kernel_rfl; intro _ _|(with_reducible refine Rg.plan_take ?_ ?_ ?_); kernel_rfl; kernel_rfl; intro _ _|(with_reducible refine Rg.plan_keep ?_ ?_); kernel_rfl; intro K hK|refine hK _ _ (Rg.Keep.refl _) ?_; clear hK|refine hK _ _ (Rg.Keep.of_below (by assumption)) ?_; clear hK|(with_reducible refine Rg.plan_skip ?_ ?_); kernel_rfl|(with_reducible refine Rg.plan_done ?_)|(with_reducible refine Rg.calm_normal ?_))
  refine Rg.phase_done (Rg.Phase.mk ?_ ?_ ?_)
  ·refine List.forall_mem_cons.2 ⟨?_, List.forall_mem_cons.2 ⟨?_, List.forall_mem_cons.2 ⟨?_, List.forall_mem_cons.2 ⟨?_, List.forall_mem_cons.2 ⟨?_, List.forall_mem_cons.2 ⟨?_, List.forall_mem_cons.2 ⟨?_, List.forall_mem_cons.2 ⟨?_, fun r hr => (by cases hr)⟩⟩⟩⟩⟩⟩⟩⟩
   all_goals exact fun v w1 w2 _ h => h
  ·refine List.forall_mem_cons.2 ⟨?_, List.forall_mem_cons.2 ⟨?_, List.forall_mem_cons.2 ⟨?_, List.forall_mem_cons.2 ⟨?_, List.forall_mem_cons.2 ⟨?_, List.forall_mem_cons.2 ⟨?_, List.forall_mem_cons.2 ⟨?_, List.forall_mem_cons.2 ⟨?_, fun r hr => (by cases hr)⟩⟩⟩⟩⟩⟩⟩⟩
   ·intro us wx hbx hdep K hK
    refine Rg.exec_fun (args := #[.slice (cutA ao at_ cap) (b.length - at_) (cap - at_)]) cfVget rfl (by kernel_rfl) (HV.out _ wx ((SC.out.below (hw.trans (Below.refl _ _).drew)).below hbx)) ?_
    rintro e wy ⟨rfl, rfl⟩
    exact ⟨_, rfl, hK _ _ _ rfl rfl (Below.refl _ _) (fun h => (by cases h))⟩
   ·intro us wx hbx hdep K hK
    have q : us 9 = .tuple #[.int .u64 (n : Nat), .int .i64 (many : Nat), .int .i64 x] := (List.forall_mem_cons.1 hdep).1 (by simp)
    exact Rg.exec_pure (v := us 9) (by kernel_rfl) (hK _ _ _ rfl q (Below.refl _ _) (fun h => (by cases h)))
   ·intro us wx hbx hdep K hK
    have q : us 10 = .tuple #[.int .u64 (n : Nat), .int .i64 (many : Nat), .int .i64 x] := (List.forall_mem_cons.1 (List.forall_mem_cons.1 hdep).2).1 (by simp)
    with_reducible refine Rg.exec_extract (x := .tmp 11) (ix := 0) (v := .int .u64 (n : Nat)) (xv := us 10) ?_ ?_ ?_ ?_
    ·rfl
    ·kernel_rfl
    ·rw [q]; exact Rg.extract3_0 _ _ _ _ _
    ·exact hK _ _ _ rfl rfl (Below.refl _ _) (fun h => (by cases h))
   ·intro us wx hbx hdep K hK
    have q : us 10 = .tuple #[.int .u64 (n : Nat), .int .i64 (many : Nat), .int .i64 x] := (List.forall_mem_cons.1 (List.forall_mem_cons.1 hdep).2).1 (by simp)
    with_reducible refine Rg.exec_extract (x := .tmp 11) (ix := 1) (v := .int .i64 (many : Nat)) (xv := us 10) ?_ ?_ ?_ ?_
    ·rfl
    ·kernel_rfl
    ·rw [q]; exact Rg.extract3_1 _ _ _ _ _
    ·exact hK _ _ _ rfl rfl (Below.refl _ _) (fun h => (by cases h))
   ·intro us wx hbx hdep K hK
    have q : us 10 = .tuple #[.int .u64 (n : Nat), .int .i64 (many : Nat), .int .i64 x] := (List.forall_mem_cons.1 (List.forall_mem_cons.1 hdep).2).1 (by simp)
    with_reducible refine Rg.exec_extract (x := .tmp 11) (ix := 2) (v := .int .i64 x) (xv := us 10) ?_ ?_ ?_ ?_
    ·rfl
    ·kernel_rfl
    ·rw [q]; exact Rg.extract3_2 _ _ _ _ _
    ·exact hK _ _ _ rfl rfl (Below.refl _ _) (fun h => (by cases h))
   ·intro us wx hbx hdep K hK
    have q : us 11 = .int .u64 (n : Nat) := (List.forall_mem_cons.1 (List.forall_mem_cons.1 (List.forall_mem_cons.1 hdep).2).2).1 (by simp)
    exact Rg.exec_pure (v := us 11) (by kernel_rfl) (hK _ _ _ rfl q (Below.refl _ _) (fun h => (by cases h)))
   ·intro us wx hbx hdep K hK
    have q : us 12 = .int .i64 (many : Nat) := (List.forall_mem_cons.1 (List.forall_mem_cons.1 (List.forall_mem_cons.1 (List.forall_mem_cons.1 hdep).2).2).2).1 (by simp)
    exact Rg.exec_pure (v := us 12) (by kernel_rfl) (hK _ _ _ rfl q (Below.refl _ _) (fun h => (by cases h)))
   ·intro us wx hbx hdep K hK
    have q : us 13 = .int .i64 x := (List.forall_mem_cons.1 (List.forall_mem_cons.1 (List.forall_mem_cons.1 (List.forall_mem_cons.1 (List.forall_mem_cons.1 hdep).2).2).2).2).1 (by simp)
    exact Rg.exec_pure (v := us 13) (by kernel_rfl) (hK _ _ _ rfl q (Below.refl _ _) (fun h => (by cases h)))
  ·intro us wD hbD hJ hfr hne
   clear hfr hne
   simp only [List.forall_mem_cons] at hJ
   obtain ⟨-, -, -, -, -, e14, e15, e16, -⟩ := hJ
   simp only [Rg.puts, List.map_cons, List.map_nil]
   simp only [e14, e15, e16]
   have rD : row? wD B = some (rd (.slice ao b.length cap) (at_, 0)) := Rg.stable_row hbD ((row?_drew _ _).trans HR.out)
   have mD : Mut B w wD := (Mut.refl _ _).drew.trans (Mut.of_below hbD)
   clear hbD hw HR HV SC c0 c1 c2 hcut
   have RD := Lib.hid rD
   clear rD
   generalize us 9 = x9
   generalize us 10 = x10
   generalize us 11 = x11
   generalize us 12 = x12
   generalize us 13 = x13
   go_wp2_with (first
    |(with_reducible refine Rg.plan_pure ?_ ?_ ?_); kernel_rfl; kernel_rfl; intro _ _|(with_reducible refine Rg.plan_take ?_ ?_ ?_); kernel_rfl; kernel_rfl; intro _ _|(with_reducible refine Rg.plan_keep ?_ ?_); kernel_rfl; intro K hK|refine hK _ _ (Rg.Keep.refl _) ?_; clear hK|refine hK _ _ (Rg.Keep.of_below (by assumption)) ?_; clear hK|(with_reducible refine Rg.plan_skip ?_ ?_); kernel_rfl|(with_reducible refine Rg.plan_done ?_)|(with_reducible refine Rg.calm_normal ?_))
   refine (fail_any wD B _ (at_, 0) _ x RD.out).mono ?_
   rintro e wE ⟨rfl, mE, rE⟩
   have hx : rfail (x != 0) x (at_, 0) = (at_, x) := by
    by_cases hx0 : x = 0
    ·subst hx0; rfl
    ·rw [show (x != 0) = true by simpa using hx0]; rfl
   rw [hx] at rE
   have mE' : Mut B w wE := mD.trans mE
   have c1 : wE.cell? ⟨B, 1, none⟩ = some (.int .i64 (at_ : Nat)) := row?_cell rE 1
   have f1 := row?_frozen rE 1
   have hwr : wrap64 ((at_ : Int) + (many : Int)) = ((at_ + many : Nat) : Int) := by unfold wrap64; omega
   have RE := Lib.hid rE
   have HWR := Lib.hid hwr
   clear mE rE RD mD hwr hx
   go_wp2_with fail
   go_ret
   refine ⟨rfl, mE'.setCell _ _ _, ?_⟩
   rw [row?_setCell_eq RE.out, ← Int.natCast_add]; rfl
 ·have e : rvar b (at_, er) = ((at_, er), 0) := rvar_bad (by simpa using he)
  rw [e]
  clear hs hw
  go_enter Try.func82, Try.ntmps82
  go_wp2_with fail
  go_ret
  exact ⟨rfl, Mut.refl _ _, HR.out⟩
end Go.Proofs.Ytjlpppnpdgenfaa
