/- FrmH; FrmW2. -/
import Derived.Test.YtipniobgijdlkaaMgs11
import Derived.Test.YtipniobgijdlkaaMgs5
import Derived.Test.YtipniobgijdlkaaMgs12
section
/- A reader and the frame that it fills, at work. -/
namespace Frm
open Go Go.RowKit Go.Rw Hdr
/-- A reader at B and the frame that it fills, at Bf; all that stood at wS, but these two, is as it was. -/
structure FS (b : List UInt8) (w0 : World) (vb : Value) (B Bf N : Nat) (tr tb : TypeId) (wS : World) (w : World) (s : Nat × Int) (f : Fr) : Prop where
  rs : RS b w0 vb B w s
  fa : ∃ vr vd vc vt, FA N tr tb Bf w vr vd vc vt f
  ne : Bf ≠ B
  hB : B < N
  hBf : Bf < N
  low : w0.heap.size ≤ Bf
  hN : N ≤ w.heap.size
  kept : Mut2 B Bf wS w
variable {b : List UInt8} {w0 : World} {vb : Value} {B Bf N : Nat} {tr tb : TypeId} {wS w w' : World} {s s' : Nat × Int} {f : Fr}
theorem FS.step (h : FS b w0 vb B Bf N tr tb wS w s f) (m : Mut B w w') (r : RS b w0 vb B w' s') : FS b w0 vb B Bf N tr tb wS w' s' f := by
  obtain ⟨vr, vd, vc, vt, fa⟩ := h.fa
  exact ⟨r, ⟨vr, vd, vc, vt, fa.mut m h.ne h.hB⟩, h.ne, h.hB, h.hBf, h.low, Nat.le_trans h.hN m.size, h.kept.trans (m.left Bf)⟩
theorem FS.cells (h : FS b w0 vb B Bf N tr tb wS w s f) : (∃ vr vd vc vt, row? w Bf = some (fvA f.k f.n f.d vr f.i f.o f.fin vd vc vt)) ∧ ∀ j, w.frozen? ⟨Bf, j, none⟩ = false := by
  obtain ⟨vr, vd, vc, vt, fa⟩ := h.fa
  exact ⟨⟨vr, vd, vc, vt, fa.row⟩, row?_frozen fa.row⟩
theorem FS.set_k (h : FS b w0 vb B Bf N tr tb wS w s f) (x : Int) : FS b w0 vb B Bf N tr tb wS (w.setCell ⟨Bf, 0, none⟩ (.int .i64 x)) s { f with k := x } := by
  obtain ⟨vr, vd, vc, vt, fa⟩ := h.fa
  have m : Mut Bf w (w.setCell ⟨Bf, 0, none⟩ (.int .i64 x)) := (Mut.refl _ _).setCell _ _ _
  exact ⟨h.rs.far m h.ne.symm h.low, ⟨vr, vd, vc, vt, fa.set h.hBf 0 (.int .i64 x) rfl fa.rs fa.dat fa.cid fa.tok⟩, h.ne, h.hB, h.hBf, h.low, Nat.le_trans h.hN m.size, h.kept.trans (m.right B)⟩
theorem FS.set_n (h : FS b w0 vb B Bf N tr tb wS w s f) (x : Nat) : FS b w0 vb B Bf N tr tb wS (w.setCell ⟨Bf, 1, none⟩ (.int .u64 (x : Nat))) s { f with n := x } := by
  obtain ⟨vr, vd, vc, vt, fa⟩ := h.fa
  have m : Mut Bf w (w.setCell ⟨Bf, 1, none⟩ (.int .u64 (x : Nat))) := (Mut.refl _ _).setCell _ _ _
  exact ⟨h.rs.far m h.ne.symm h.low, ⟨vr, vd, vc, vt, fa.set h.hBf 1 (.int .u64 (x : Nat)) rfl fa.rs fa.dat fa.cid fa.tok⟩, h.ne, h.hB, h.hBf, h.low, Nat.le_trans h.hN m.size, h.kept.trans (m.right B)⟩
theorem FS.set_d (h : FS b w0 vb B Bf N tr tb wS w s f) (x : Nat) : FS b w0 vb B Bf N tr tb wS (w.setCell ⟨Bf, 2, none⟩ (.int .u64 (x : Nat))) s { f with d := x } := by
  obtain ⟨vr, vd, vc, vt, fa⟩ := h.fa
  have m : Mut Bf w (w.setCell ⟨Bf, 2, none⟩ (.int .u64 (x : Nat))) := (Mut.refl _ _).setCell _ _ _
  exact ⟨h.rs.far m h.ne.symm h.low, ⟨vr, vd, vc, vt, fa.set h.hBf 2 (.int .u64 (x : Nat)) rfl fa.rs fa.dat fa.cid fa.tok⟩, h.ne, h.hB, h.hBf, h.low, Nat.le_trans h.hN m.size, h.kept.trans (m.right B)⟩
theorem FS.set_i (h : FS b w0 vb B Bf N tr tb wS w s f) (x : Nat) : FS b w0 vb B Bf N tr tb wS (w.setCell ⟨Bf, 4, none⟩ (.int .u64 (x : Nat))) s { f with i := x } := by
  obtain ⟨vr, vd, vc, vt, fa⟩ := h.fa
  have m : Mut Bf w (w.setCell ⟨Bf, 4, none⟩ (.int .u64 (x : Nat))) := (Mut.refl _ _).setCell _ _ _
  exact ⟨h.rs.far m h.ne.symm h.low, ⟨vr, vd, vc, vt, fa.set h.hBf 4 (.int .u64 (x : Nat)) rfl fa.rs fa.dat fa.cid fa.tok⟩, h.ne, h.hB, h.hBf, h.low, Nat.le_trans h.hN m.size, h.kept.trans (m.right B)⟩
theorem FS.set_o (h : FS b w0 vb B Bf N tr tb wS w s f) (x : Nat) : FS b w0 vb B Bf N tr tb wS (w.setCell ⟨Bf, 5, none⟩ (.int .u64 (x : Nat))) s { f with o := x } := by
  obtain ⟨vr, vd, vc, vt, fa⟩ := h.fa
  have m : Mut Bf w (w.setCell ⟨Bf, 5, none⟩ (.int .u64 (x : Nat))) := (Mut.refl _ _).setCell _ _ _
  exact ⟨h.rs.far m h.ne.symm h.low, ⟨vr, vd, vc, vt, fa.set h.hBf 5 (.int .u64 (x : Nat)) rfl fa.rs fa.dat fa.cid fa.tok⟩, h.ne, h.hB, h.hBf, h.low, Nat.le_trans h.hN m.size, h.kept.trans (m.right B)⟩
theorem FS.set_fin (h : FS b w0 vb B Bf N tr tb wS w s f) (x : Bool) : FS b w0 vb B Bf N tr tb wS (w.setCell ⟨Bf, 6, none⟩ (.bool x)) s { f with fin := x } := by
  obtain ⟨vr, vd, vc, vt, fa⟩ := h.fa
  have m : Mut Bf w (w.setCell ⟨Bf, 6, none⟩ (.bool x)) := (Mut.refl _ _).setCell _ _ _
  exact ⟨h.rs.far m h.ne.symm h.low, ⟨vr, vd, vc, vt, fa.set h.hBf 6 (.bool x) rfl fa.rs fa.dat fa.cid fa.tok⟩, h.ne, h.hB, h.hBf, h.low, Nat.le_trans h.hN m.size, h.kept.trans (m.right B)⟩
theorem FS.set_dat (h : FS b w0 vb B Bf N tr tb wS w s f) (x : Value) (l : List UInt8) (ho : w.ownsRow N tb 1 x l.length (l.map bv)) : FS b w0 vb B Bf N tr tb wS (w.setCell ⟨Bf, 7, none⟩ x) s { f with dat := l } := by
  obtain ⟨vr, vd, vc, vt, fa⟩ := h.fa
  have m : Mut Bf w (w.setCell ⟨Bf, 7, none⟩ x) := (Mut.refl _ _).setCell _ _ _
  exact ⟨h.rs.far m h.ne.symm h.low, ⟨vr, x, vc, vt, fa.set h.hBf 7 x rfl fa.rs ho fa.cid fa.tok⟩, h.ne, h.hB, h.hBf, h.low, Nat.le_trans h.hN m.size, h.kept.trans (m.right B)⟩
theorem FS.set_cid (h : FS b w0 vb B Bf N tr tb wS w s f) (x : Value) (l : List UInt8) (ho : w.ownsRow N tb 1 x l.length (l.map bv)) : FS b w0 vb B Bf N tr tb wS (w.setCell ⟨Bf, 8, none⟩ x) s { f with cid := l } := by
  obtain ⟨vr, vd, vc, vt, fa⟩ := h.fa
  have m : Mut Bf w (w.setCell ⟨Bf, 8, none⟩ x) := (Mut.refl _ _).setCell _ _ _
  exact ⟨h.rs.far m h.ne.symm h.low, ⟨vr, vd, x, vt, fa.set h.hBf 8 x rfl fa.rs fa.dat ho fa.tok⟩, h.ne, h.hB, h.hBf, h.low, Nat.le_trans h.hN m.size, h.kept.trans (m.right B)⟩
theorem FS.set_tok (h : FS b w0 vb B Bf N tr tb wS w s f) (x : Value) (l : List UInt8) (ho : w.ownsRow N tb 1 x l.length (l.map bv)) : FS b w0 vb B Bf N tr tb wS (w.setCell ⟨Bf, 9, none⟩ x) s { f with tok := l } := by
  obtain ⟨vr, vd, vc, vt, fa⟩ := h.fa
  have m : Mut Bf w (w.setCell ⟨Bf, 9, none⟩ x) := (Mut.refl _ _).setCell _ _ _
  exact ⟨h.rs.far m h.ne.symm h.low, ⟨vr, vd, vc, x, fa.set h.hBf 9 x rfl fa.rs fa.dat fa.cid ho⟩, h.ne, h.hB, h.hBf, h.low, Nat.le_trans h.hN m.size, h.kept.trans (m.right B)⟩
end Frm
end
section
/- The walks of package frame's reader: a length, and so many bytes, of a stream; what tells of an ID. -/
namespace Hdr
open Go.Rw
theorem vget_lt62 (l : List UInt8) : (vget l).1 < 4611686018427387904 := by
  unfold vget
  split
  · decide
  · show vnum l < _
    unfold vnum
    refine Nat.lt_of_lt_of_le (Go.Proofs.Ytipniobgijdlkaa.fold_lt _ _) ?_
    have h1 : ((l.take (vmany (nth l 0))).drop 1).length ≤ 7 := by
      have := vmany_le (nth l 0)
      rw [List.length_drop, List.length_take]; omega
    have h2 : n8 (nth l 0) % 64 + 1 ≤ 64 := by omega
    exact Nat.le_trans (Nat.mul_le_mul h2 (Nat.pow_le_pow_right (n := 256) (by decide) h1)) (by decide)
theorem rvar_lt62 (b : List UInt8) (s : Nat × Int) : (rvar b s).2 < 4611686018427387904 := by
  unfold rvar
  split
  · show (0 : Nat) < _
    decide
  · exact vget_lt62 _
end Hdr
namespace Go.Proofs.Ytipniobgijdlkaa
open Go.RowKit Go.Rw Frm Hdr
attribute [local go_sem ↓] fvA_0 fvA_1 fvA_2 fvA_3 fvA_4 fvA_5 fvA_6 fvA_7 fvA_8 fvA_9
set_option maxRecDepth 20000 in
set_option maxHeartbeats 2000000 in
theorem fbytes_any (b : List UInt8) (w0 : World) (vb : Value) (B Bf N : Nat) (wS w : World) (s : Nat × Int) (f : Fr) (h : FS b w0 vb B Bf N 58 5 wS w s f) :
    Calls Try.prog 64 #[.pointer (some ⟨B, 0, none⟩), .pointer (some ⟨Bf, 0, none⟩)] w fun e w' => e = .returned (.tuple #[]) ∧ FS b w0 vb B Bf N 58 5 wS w' (rbytes b s f).1 (rbytes b s f).2 := by
  unfold rbytes
  have ho := rvar_lt62 b s
  obtain ⟨q1, hq1⟩ : ∃ q, rvar b s = q := ⟨_, rfl⟩
  have hn1 := fnum_any b w0 vb B w s h.rs
  rw [hq1] at ho hn1 ⊢
  obtain ⟨s1, o⟩ := q1
  simp only [] at ho hn1 ⊢
  have hn := rvar_lt62 b s1
  obtain ⟨q2, hq2⟩ : ∃ q, rvar b s1 = q := ⟨_, rfl⟩
  rw [hq2] at hn ⊢
  obtain ⟨s2, n⟩ := q2
  simp only [] at hn ⊢
  obtain ⟨fl, hfl⟩ : ∃ fl, (decide (16383 < n) || decide (4611686018427387903 - n < o)) = fl := ⟨_, rfl⟩
  rw [hfl]
  obtain ⟨s3, hs3⟩ : ∃ s3, rfail fl 5 s2 = s3 := ⟨_, rfl⟩
  rw [hs3]
  obtain ⟨q4, hq4⟩ : ∃ q, rtake b n s3 = q := ⟨_, rfl⟩
  rw [hq4]
  obtain ⟨s4, l⟩ := q4
  simp only []
  have H0 := Lib.hid h
  have HN1 := Lib.hid hn1
  have E2 := Lib.hid hq2
  have EF := Lib.hid hfl
  have E3 := Lib.hid hs3
  have E4 := Lib.hid hq4
  have hw : IntKind.u64.wrap (4611686018427387903 - ((n : Nat) : Int)) = 4611686018427387903 - (n : Nat) := by simp only [IntKind.wrap_u64]; omega
  have HW := Lib.hid hw
  clear h hn1 hq1 hq2 hfl hs3 hq4 hw
  go_enter Try.func64, Try.ntmps64
  go_wp2_with fail
  refine HN1.out.mono ?_
  rintro e w1 ⟨rfl, m1, r1⟩
  have h1 := H0.out.step m1 r1
  obtain ⟨⟨ur, ud, uc, ut, rr⟩, ff⟩ := h1.cells
  have cc : w1.cell? ⟨Bf, 5, none⟩ = some (.int .u64 (f.o : Nat)) := row?_cell rr 5
  have H1 := Lib.hid h1
  clear h1 rr m1 r1 H0 HN1
  simp only []
  go_wp2_with fail
  have h2 := H1.out.set_o o
  clear cc ff H1
  generalize (w1.setCell ⟨Bf, 5, none⟩ (.int .u64 (o : Nat))) = w2 at h2 ⊢
  have H2 := Lib.hid h2
  clear h2
  refine (fnum_any b w0 vb B w2 s1 H2.out.rs).mono ?_
  rw [E2.out]
  rintro e w3 ⟨rfl, m3, r3⟩
  have h3 := H2.out.step m3 r3
  obtain ⟨⟨ur, ud, uc, ut, rr⟩, ff⟩ := h3.cells
  have cc : w3.cell? ⟨Bf, 5, none⟩ = some (.int .u64 (o : Nat)) := row?_cell rr 5
  have H3 := Lib.hid h3
  clear h3 rr m3 r3 H2
  simp only []
  by_cases g1 : 16383 < n
  all_goals by_cases g2 : 4611686018427387903 - n < o
  all_goals
    have hfl := EF.out
    simp only [g1, g2, decide_true, decide_false, Bool.or_true, Bool.or_false, Bool.or_self] at hfl
    subst hfl
    first
      | have p1 : decide ((16383 : Int) < (n : Nat)) = true := decide_eq_true (by omega)
      | have p1 : decide ((16383 : Int) < (n : Nat)) = false := decide_eq_false (by omega)
    first
      | have p2 : decide ((4611686018427387903 : Int) - (n : Nat) < (o : Nat)) = true := decide_eq_true (by omega)
      | have p2 : decide ((4611686018427387903 : Int) - (n : Nat) < (o : Nat)) = false := decide_eq_false (by omega)
    have hw := HW.out
    clear g1 g2
    go_wp2_with fail
    refine (ffail_any b w0 vb B w3 s2 _ 5 H3.out.rs).mono ?_
    rw [E3.out]
    rintro e w4 ⟨rfl, m4, r4⟩
    have H4 := Lib.hid (H3.out.step m4 r4)
    clear m4 r4 H3 cc ff p1 p2 hw
    go_wp2_with fail
    refine (ftake_any b w0 vb B w4 s3 n hn H4.out.rs).mono ?_
    rw [E4.out]
    rintro e w5 ⟨v5, rfl, o5, m5, r5⟩
    have h5 := H4.out.step m5 r5
    have o5' := own_lower o5 H4.out.hN
    obtain ⟨⟨ur, ud, uc, ut, rr⟩, ff⟩ := h5.cells
    have cc : w5.cell? ⟨Bf, 7, none⟩ = some ud := row?_cell rr 7
    obtain ⟨a5, x5, rfl, -, -, -⟩ := id (Own.sl o5)
    have H5 := Lib.hid h5
    have O5 := Lib.hid o5'
    clear h5 rr m5 r5 H4 o5 o5'
    go_wp2_with fail
    go_end0
    exact ⟨rfl, H5.out.set_dat _ l O5.out⟩
set_option maxRecDepth 20000 in
set_option maxHeartbeats 2000000 in
theorem fcid_any (b : List UInt8) (w0 : World) (vb : Value) (B Bf N : Nat) (wS w : World) (s : Nat × Int) (f : Fr) (h : FS b w0 vb B Bf N 58 5 wS w s f) :
    Calls Try.prog 66 #[.pointer (some ⟨B, 0, none⟩), .pointer (some ⟨Bf, 0, none⟩)] w fun e w' => e = .returned (.tuple #[]) ∧ FS b w0 vb B Bf N 58 5 wS w' (rcid b s f).1 (rcid b s f).2 := by
  unfold rcid
  obtain ⟨q1, hq1⟩ : ∃ q, rvar b s = q := ⟨_, rfl⟩
  have hn1 := fnum_any b w0 vb B w s h.rs
  rw [hq1] at hn1 ⊢
  obtain ⟨s1, n⟩ := q1
  simp only [] at hn1 ⊢
  obtain ⟨s2, hs2⟩ : ∃ s2, rzero b s1 = s2 := ⟨_, rfl⟩
  rw [hs2]
  have lk := rtake_len b 1 s2
  obtain ⟨q3, hq3⟩ : ∃ q, rtake b 1 s2 = q := ⟨_, rfl⟩
  rw [hq3] at lk ⊢
  obtain ⟨s3, kl⟩ := q3
  simp only [] at lk ⊢
  obtain ⟨fl, hfl⟩ : ∃ fl, (decide (kl.length = 1) && (nth kl 0 != 8)) = fl := ⟨_, rfl⟩
  rw [hfl]
  obtain ⟨s4, hs4⟩ : ∃ s4, rfail fl 5 s3 = s4 := ⟨_, rfl⟩
  rw [hs4]
  obtain ⟨q5, hq5⟩ : ∃ q, rtake b 8 s4 = q := ⟨_, rfl⟩
  rw [hq5]
  obtain ⟨s5, cl⟩ := q5
  simp only []
  obtain ⟨q6, hq6⟩ : ∃ q, rtake b 16 s5 = q := ⟨_, rfl⟩
  rw [hq6]
  obtain ⟨s6, tl⟩ := q6
  simp only []
  have H0 := Lib.hid h
  have HN1 := Lib.hid hn1
  have E2 := Lib.hid hs2
  have E3 := Lib.hid hq3
  have EF := Lib.hid hfl
  have E4 := Lib.hid hs4
  have E5 := Lib.hid hq5
  have E6 := Lib.hid hq6
  clear h hn1 hq1 hs2 hq3 hfl hs4 hq5 hq6
  go_enter Try.func66, Try.ntmps66
  go_wp2_with fail
  refine HN1.out.mono ?_
  rintro e w1 ⟨rfl, m1, r1⟩
  have h1 := H0.out.step m1 r1
  obtain ⟨⟨ur, ud, uc, ut, rr⟩, ff⟩ := h1.cells
  have cc : w1.cell? ⟨Bf, 1, none⟩ = some (.int .u64 (f.n : Nat)) := row?_cell rr 1
  have H1 := Lib.hid h1
  clear h1 rr m1 r1 H0 HN1
  simp only []
  go_wp2_with fail
  have h2 := H1.out.set_n n
  clear cc ff H1
  generalize (w1.setCell ⟨Bf, 1, none⟩ (.int .u64 (n : Nat))) = w2 at h2 ⊢
  have H2 := Lib.hid h2
  clear h2
  refine (fzero_any b w0 vb B w2 s1 H2.out.rs).mono ?_
  rw [E2.out]
  rintro e w3 ⟨rfl, m3, r3⟩
  have H3 := Lib.hid (H2.out.step m3 r3)
  clear m3 r3 H2
  go_wp2_with fail
  refine (ftake_any b w0 vb B w3 s2 1 (by omega) H3.out.rs).mono ?_
  rw [E3.out]
  rintro e w4 ⟨v4, rfl, o4, m4, r4⟩
  have H4 := Lib.hid (H3.out.step m4 r4)
  have sv := Own.sl o4
  obtain ⟨a4, x4, rfl, -, -, hp⟩ := id sv
  clear m4 r4 H3 o4
  simp only [] at hp ⊢
  by_cases gl : kl.length = 1
  case neg =>
    have hfl := EF.out
    rw [decide_eq_false gl, Bool.false_and] at hfl
    subst hfl
    have q : ((kl.length : Int) == 1) = false := by simp; omega
    have GL := Lib.hid gl
    clear gl hp sv
    go_wp2_with fail
    refine (ffail_any b w0 vb B w4 s3 _ 5 H4.out.rs).mono ?_
    rw [E4.out]
    rintro e w5 ⟨rfl, m5, r5⟩
    have H5 := Lib.hid (H4.out.step m5 r5)
    clear m5 r5 H4
    go_wp2_with fail
    refine (ftake_any b w0 vb B w5 s4 8 (by omega) H5.out.rs).mono ?_
    rw [E5.out]
    rintro e w6 ⟨v6, rfl, o6, m6, r6⟩
    have h6 := H5.out.step m6 r6
    have o6' := own_lower o6 H5.out.hN
    obtain ⟨⟨ur, ud, uc, ut, rr⟩, ff⟩ := h6.cells
    have cc : w6.cell? ⟨Bf, 8, none⟩ = some uc := row?_cell rr 8
    obtain ⟨a6, x6, rfl, -, -, -⟩ := id (Own.sl o6)
    have H6 := Lib.hid h6
    have O6 := Lib.hid o6'
    clear h6 rr m6 r6 H5 o6 o6'
    go_wp2_with fail
    have h7 := H6.out.set_cid _ cl O6.out
    simp only [] at h7
    clear cc ff H6 O6
    generalize (w6.setCell ⟨Bf, 8, none⟩ (.slice a6 cl.length x6)) = w7 at h7 ⊢
    have H7 := Lib.hid h7
    clear h7
    refine (ftake_any b w0 vb B w7 s5 16 (by omega) H7.out.rs).mono ?_
    rw [E6.out]
    rintro e w8 ⟨v8, rfl, o8, m8, r8⟩
    have h8 := H7.out.step m8 r8
    have o8' := own_lower o8 H7.out.hN
    obtain ⟨⟨ur, ud, uc, ut, rr⟩, ff⟩ := h8.cells
    have cc : w8.cell? ⟨Bf, 9, none⟩ = some ut := row?_cell rr 9
    obtain ⟨a8, x8, rfl, -, -, -⟩ := id (Own.sl o8)
    have H8 := Lib.hid h8
    have O8 := Lib.hid o8'
    clear h8 rr m8 r8 H7 o8 o8'
    go_wp2_with fail
    go_end0
    exact ⟨rfl, H8.out.set_tok _ tl O8.out⟩
  obtain ⟨bk, ok, hak, hck⟩ := hp (by show 0 < kl.length; omega)
  have ck := hck 0 (by show 0 < kl.length; omega)
  subst hak
  rw [Nat.add_zero] at ck
  have q : ((kl.length : Int) == 1) = true := by simp; omega
  have hfl := EF.out
  rw [decide_eq_true gl, Bool.true_and] at hfl
  have GL := Lib.hid gl
  clear gl hp sv hck
  have hk0 : 0 < kl.length := by have := GL.out; omega
  cases fl
  · have q8 : (nth kl 0 != 8) = false := hfl
    have Q8 := Lib.hid hfl
    clear hfl
    go_wp2_with fail
    refine (ffail_any b w0 vb B w4 s3 _ 5 H4.out.rs).mono ?_
    rw [E4.out]
    rintro e w5 ⟨rfl, m5, r5⟩
    have H5 := Lib.hid (H4.out.step m5 r5)
    clear m5 r5 H4
    go_wp2_with fail
    refine (ftake_any b w0 vb B w5 s4 8 (by omega) H5.out.rs).mono ?_
    rw [E5.out]
    rintro e w6 ⟨v6, rfl, o6, m6, r6⟩
    have h6 := H5.out.step m6 r6
    have o6' := own_lower o6 H5.out.hN
    obtain ⟨⟨ur, ud, uc, ut, rr⟩, ff⟩ := h6.cells
    have cc : w6.cell? ⟨Bf, 8, none⟩ = some uc := row?_cell rr 8
    obtain ⟨a6, x6, rfl, -, -, -⟩ := id (Own.sl o6)
    have H6 := Lib.hid h6
    have O6 := Lib.hid o6'
    clear h6 rr m6 r6 H5 o6 o6'
    go_wp2_with fail
    have h7 := H6.out.set_cid _ cl O6.out
    simp only [] at h7
    clear cc ff H6 O6
    generalize (w6.setCell ⟨Bf, 8, none⟩ (.slice a6 cl.length x6)) = w7 at h7 ⊢
    have H7 := Lib.hid h7
    clear h7
    refine (ftake_any b w0 vb B w7 s5 16 (by omega) H7.out.rs).mono ?_
    rw [E6.out]
    rintro e w8 ⟨v8, rfl, o8, m8, r8⟩
    have h8 := H7.out.step m8 r8
    have o8' := own_lower o8 H7.out.hN
    obtain ⟨⟨ur, ud, uc, ut, rr⟩, ff⟩ := h8.cells
    have cc : w8.cell? ⟨Bf, 9, none⟩ = some ut := row?_cell rr 9
    obtain ⟨a8, x8, rfl, -, -, -⟩ := id (Own.sl o8)
    have H8 := Lib.hid h8
    have O8 := Lib.hid o8'
    clear h8 rr m8 r8 H7 o8 o8'
    go_wp2_with fail
    go_end0
    exact ⟨rfl, H8.out.set_tok _ tl O8.out⟩
  · have q8 : (nth kl 0 != 8) = true := hfl
    have Q8 := Lib.hid hfl
    clear hfl
    go_wp2_with fail
    refine (ffail_any b w0 vb B w4 s3 _ 5 H4.out.rs).mono ?_
    rw [E4.out]
    rintro e w5 ⟨rfl, m5, r5⟩
    have H5 := Lib.hid (H4.out.step m5 r5)
    clear m5 r5 H4
    go_wp2_with fail
    refine (ftake_any b w0 vb B w5 s4 8 (by omega) H5.out.rs).mono ?_
    rw [E5.out]
    rintro e w6 ⟨v6, rfl, o6, m6, r6⟩
    have h6 := H5.out.step m6 r6
    have o6' := own_lower o6 H5.out.hN
    obtain ⟨⟨ur, ud, uc, ut, rr⟩, ff⟩ := h6.cells
    have cc : w6.cell? ⟨Bf, 8, none⟩ = some uc := row?_cell rr 8
    obtain ⟨a6, x6, rfl, -, -, -⟩ := id (Own.sl o6)
    have H6 := Lib.hid h6
    have O6 := Lib.hid o6'
    clear h6 rr m6 r6 H5 o6 o6'
    go_wp2_with fail
    have h7 := H6.out.set_cid _ cl O6.out
    simp only [] at h7
    clear cc ff H6 O6
    generalize (w6.setCell ⟨Bf, 8, none⟩ (.slice a6 cl.length x6)) = w7 at h7 ⊢
    have H7 := Lib.hid h7
    clear h7
    refine (ftake_any b w0 vb B w7 s5 16 (by omega) H7.out.rs).mono ?_
    rw [E6.out]
    rintro e w8 ⟨v8, rfl, o8, m8, r8⟩
    have h8 := H7.out.step m8 r8
    have o8' := own_lower o8 H7.out.hN
    obtain ⟨⟨ur, ud, uc, ut, rr⟩, ff⟩ := h8.cells
    have cc : w8.cell? ⟨Bf, 9, none⟩ = some ut := row?_cell rr 9
    obtain ⟨a8, x8, rfl, -, -, -⟩ := id (Own.sl o8)
    have H8 := Lib.hid h8
    have O8 := Lib.hid o8'
    clear h8 rr m8 r8 H7 o8 o8'
    go_wp2_with fail
    go_end0
    exact ⟨rfl, H8.out.set_tok _ tl O8.out⟩
end Go.Proofs.Ytipniobgijdlkaa
end
