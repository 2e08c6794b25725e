/- The walk of package frame's reader: a frame behind its kind. -/
import Derived.Test.YtipniobgijdlkaaMgsFrmW3
namespace Frm
open Go Go.RowKit Go.Rw Hdr
theorem rbody_1 (b : List UInt8) (s : Nat × Int) (f : Fr) (h : f.k = 1 ∨ f.k = 30) : rbody b s f = (s, f) := by unfold rbody; rw [if_pos h]
theorem rbody_2 (b : List UInt8) (s : Nat × Int) (f : Fr) (h : f.k = 2) : rbody b s f = rack b s f := by unfold rbody; rw [if_neg (by omega), if_pos h]
theorem rbody_6 (b : List UInt8) (s : Nat × Int) (f : Fr) (h : f.k = 6) : rbody b s f = rbytes b s f := by unfold rbody; rw [if_neg (by omega), if_neg (by omega), if_pos h]
theorem rbody_14 (b : List UInt8) (s : Nat × Int) (f : Fr) (h : f.k = 14 ∨ f.k = 15) : rbody b s f = rbytes b (rvar b s).1 { f with fin := (f.k == 15), k := 8, i := (rvar b s).2 } := by unfold rbody; rw [if_neg (by omega), if_neg (by omega), if_neg (by omega), if_pos h]
theorem rbody_16 (b : List UInt8) (s : Nat × Int) (f : Fr) (h : f.k = 16 ∨ f.k = 25) : rbody b s f = ((rvar b s).1, { f with n := (rvar b s).2 }) := by unfold rbody; rw [if_neg (by omega), if_neg (by omega), if_neg (by omega), if_neg (by omega), if_pos h]
theorem rbody_24 (b : List UInt8) (s : Nat × Int) (f : Fr) (h : f.k = 24) : rbody b s f = rcid b s f := by unfold rbody; rw [if_neg (by omega), if_neg (by omega), if_neg (by omega), if_neg (by omega), if_neg (by omega), if_pos h]
theorem rbody_26 (b : List UInt8) (s : Nat × Int) (f : Fr) (h : f.k = 26 ∨ f.k = 27) : rbody b s f = ((rtake b 8 s).1, { f with dat := (rtake b 8 s).2 }) := by unfold rbody; rw [if_neg (by omega), if_neg (by omega), if_neg (by omega), if_neg (by omega), if_neg (by omega), if_neg (by omega), if_pos h]
theorem rbody_28 (b : List UInt8) (s : Nat × Int) (f : Fr) (h : f.k = 28) : rbody b s f = (rzero b (rzero b (rvar b s).1), { f with n := (rvar b s).2 }) := by unfold rbody; rw [if_neg (by omega), if_neg (by omega), if_neg (by omega), if_neg (by omega), if_neg (by omega), if_neg (by omega), if_neg (by omega), if_pos h]
theorem rbody_no (b : List UInt8) (s : Nat × Int) (f : Fr) (h : f.k ≠ 1 ∧ f.k ≠ 30 ∧ f.k ≠ 2 ∧ f.k ≠ 6 ∧ f.k ≠ 14 ∧ f.k ≠ 15 ∧ f.k ≠ 16 ∧ f.k ≠ 25 ∧ f.k ≠ 24 ∧ f.k ≠ 26 ∧ f.k ≠ 27 ∧ f.k ≠ 28) : rbody b s f = ((s.1, 6), f) := by unfold rbody; rw [if_neg (by omega), if_neg (by omega), if_neg (by omega), if_neg (by omega), if_neg (by omega), if_neg (by omega), if_neg (by omega), if_neg (by omega)]
end Frm
namespace Go.Proofs.Ytipniobgijdlkaa
open Go.RowKit Go.Rw Frm Hdr
attribute [local go_sem ↓] fvA_0 fvA_1 fvA_2 fvA_3 fvA_4 fvA_5 fvA_6 fvA_7 fvA_8 fvA_9
set_option maxRecDepth 100000 in
set_option maxHeartbeats 4000000 in
theorem fbody_any (b : List UInt8) (w0 : World) (vb : Value) (B Bf N : Nat) (wS w : World) (s : Nat × Int) (f : Fr) (hfr : f.rs = []) (h : FSA b w0 vb B Bf N 58 5 wS w s f) :
    Calls Try.prog 55 #[.pointer (some ⟨B, 0, none⟩), .pointer (some ⟨Bf, 0, none⟩)] w fun e w' => e = .returned (.tuple #[]) ∧ FS b w0 vb B Bf N 58 5 wS w' (rbody b s f).1 (rbody b s f).2 := by
  obtain ⟨⟨ur, ud, uc, ut, rr⟩, ff⟩ := h.fs.cells
  have c0 : w.cell? ⟨Bf, 0, none⟩ = some (.int .i64 f.k) := row?_cell rr 0
  obtain ⟨q, hq⟩ : ∃ q, rbody b s f = q := ⟨_, rfl⟩
  rw [hq]
  have HQ := Lib.hid hq
  have H0 := Lib.hid h
  have HFR := Lib.hid hfr
  have RR := Lib.hid rr
  clear hq h hfr rr ff
  go_enter Try.func55, Try.ntmps55
  obtain ⟨K, hK0⟩ : ∃ K, f.k = K := ⟨_, rfl⟩
  rw [hK0] at c0
  have HK := Lib.hid hK0
  clear hK0
  by_cases k1 : K = 1
  case pos =>
    subst k1
    have hq := HQ.out
    rw [rbody_1 b s f (.inl HK.out)] at hq
    subst hq
    go_wp2_with fail
    go_end0
    exact ⟨rfl, H0.out.fs⟩
  have q1 : (K == 1) = false := by simpa using k1
  by_cases k30 : K = 30
  case pos =>
    subst k30
    have hq := HQ.out
    rw [rbody_1 b s f (.inr HK.out)] at hq
    subst hq
    go_wp2_with fail
    go_end0
    exact ⟨rfl, H0.out.fs⟩
  have q30 : (K == 30) = false := by simpa using k30
  by_cases k2 : K = 2
  case pos =>
    subst k2
    have hq := HQ.out
    rw [rbody_2 b s f (HK.out)] at hq
    obtain ⟨s', f'⟩ := q
    have HQ2 := Lib.hid hq
    clear hq HQ
    have hc := franges_any b w0 vb B Bf N wS w s f HFR.out H0.out
    rw [HQ2.out] at hc
    go_wp2_with fail
    refine hc.mono ?_
    rintro e w1 ⟨rfl, h1⟩
    have H1 := Lib.hid h1
    clear h1 hc
    go_wp2_with fail
    go_end0
    exact ⟨rfl, H1.out⟩
  have q2 : (K == 2) = false := by simpa using k2
  by_cases k6 : K = 6
  case pos =>
    subst k6
    have hq := HQ.out
    rw [rbody_6 b s f (HK.out)] at hq
    obtain ⟨s', f'⟩ := q
    have HQ2 := Lib.hid hq
    clear hq HQ
    have hc := fbytes_any b w0 vb B Bf N wS w s f H0.out.fs
    rw [HQ2.out] at hc
    go_wp2_with fail
    refine hc.mono ?_
    rintro e w1 ⟨rfl, h1⟩
    have H1 := Lib.hid h1
    clear h1 hc
    go_wp2_with fail
    go_end0
    exact ⟨rfl, H1.out⟩
  have q6 : (K == 6) = false := by simpa using k6
  by_cases k14 : K = 14
  case pos =>
    subst k14
    have hq := HQ.out
    rw [rbody_14 b s f (.inl HK.out)] at hq
    rw [HK.out] at hq
    obtain ⟨⟨s1, idn⟩, hv⟩ : ∃ q, rvar b s = q := ⟨_, rfl⟩
    rw [hv] at hq
    simp only [] at hq
    obtain ⟨s', f'⟩ := q
    have HQ2 := Lib.hid hq
    have HV := Lib.hid hv
    clear hq hv HQ
    have c6 : w.cell? ⟨Bf, 6, none⟩ = some (.bool f.fin) := row?_cell RR.out 6
    have ff := row?_frozen RR.out
    go_wp2_with fail
    have h1 := (H0.out.fs.set_fin false).set_k 8
    generalize ((w.setCell ⟨Bf, 6, none⟩ (.bool false)).setCell ⟨Bf, 0, none⟩ (.int .i64 8)) = w1 at h1 ⊢
    have H1 := Lib.hid h1
    clear h1 c0 c6 ff RR
    have hn := fnum_any b w0 vb B w1 s H1.out.rs
    rw [HV.out] at hn
    refine hn.mono ?_
    rintro e w2 ⟨rfl, m2, r2⟩
    have h2 := H1.out.step m2 r2
    obtain ⟨⟨ur2, ud2, uc2, ut2, rr2⟩, ff⟩ := h2.cells
    have c4 : w2.cell? ⟨Bf, 4, none⟩ = some (.int .u64 (f.i : Nat)) := row?_cell rr2 4
    have H2 := Lib.hid h2
    clear h2 rr2 m2 r2 H1 hn
    simp only []
    go_wp2_with fail
    have h3 := H2.out.set_i idn
    generalize (w2.setCell ⟨Bf, 4, none⟩ (.int .u64 (idn : Nat))) = w3 at h3 ⊢
    have hc := fbytes_any b w0 vb B Bf N wS w3 s1 _ h3
    have e3 : (fun x : Fr => ({ ({ ({ x with fin := false } : Fr) with k := 8 } : Fr) with i := idn } : Fr)) f = { f with fin := (14 == (15 : Int)), k := 8, i := idn } := rfl
    simp only [] at e3
    rw [show ({ ({ ({ f with fin := false } : Fr) with k := 8 } : Fr) with i := idn } : Fr) = { f with fin := (14 == (15 : Int)), k := 8, i := idn } from rfl, HQ2.out] at hc
    clear h3 c4 ff H2 e3
    refine hc.mono ?_
    rintro e w4 ⟨rfl, h4⟩
    have H4 := Lib.hid h4
    clear h4 hc
    go_wp2_with fail
    go_end0
    exact ⟨rfl, H4.out⟩
  have q14 : (K == 14) = false := by simpa using k14
  by_cases k15 : K = 15
  case pos =>
    subst k15
    have hq := HQ.out
    rw [rbody_14 b s f (.inr HK.out)] at hq
    rw [HK.out] at hq
    obtain ⟨⟨s1, idn⟩, hv⟩ : ∃ q, rvar b s = q := ⟨_, rfl⟩
    rw [hv] at hq
    simp only [] at hq
    obtain ⟨s', f'⟩ := q
    have HQ2 := Lib.hid hq
    have HV := Lib.hid hv
    clear hq hv HQ
    have c6 : w.cell? ⟨Bf, 6, none⟩ = some (.bool f.fin) := row?_cell RR.out 6
    have ff := row?_frozen RR.out
    go_wp2_with fail
    have h1 := (H0.out.fs.set_fin true).set_k 8
    generalize ((w.setCell ⟨Bf, 6, none⟩ (.bool true)).setCell ⟨Bf, 0, none⟩ (.int .i64 8)) = w1 at h1 ⊢
    have H1 := Lib.hid h1
    clear h1 c0 c6 ff RR
    have hn := fnum_any b w0 vb B w1 s H1.out.rs
    rw [HV.out] at hn
    refine hn.mono ?_
    rintro e w2 ⟨rfl, m2, r2⟩
    have h2 := H1.out.step m2 r2
    obtain ⟨⟨ur2, ud2, uc2, ut2, rr2⟩, ff⟩ := h2.cells
    have c4 : w2.cell? ⟨Bf, 4, none⟩ = some (.int .u64 (f.i : Nat)) := row?_cell rr2 4
    have H2 := Lib.hid h2
    clear h2 rr2 m2 r2 H1 hn
    simp only []
    go_wp2_with fail
    have h3 := H2.out.set_i idn
    generalize (w2.setCell ⟨Bf, 4, none⟩ (.int .u64 (idn : Nat))) = w3 at h3 ⊢
    have hc := fbytes_any b w0 vb B Bf N wS w3 s1 _ h3
    have e3 : (fun x : Fr => ({ ({ ({ x with fin := true } : Fr) with k := 8 } : Fr) with i := idn } : Fr)) f = { f with fin := (15 == (15 : Int)), k := 8, i := idn } := rfl
    simp only [] at e3
    rw [show ({ ({ ({ f with fin := true } : Fr) with k := 8 } : Fr) with i := idn } : Fr) = { f with fin := (15 == (15 : Int)), k := 8, i := idn } from rfl, HQ2.out] at hc
    clear h3 c4 ff H2 e3
    refine hc.mono ?_
    rintro e w4 ⟨rfl, h4⟩
    have H4 := Lib.hid h4
    clear h4 hc
    go_wp2_with fail
    go_end0
    exact ⟨rfl, H4.out⟩
  have q15 : (K == 15) = false := by simpa using k15
  by_cases k16 : K = 16
  case pos =>
    subst k16
    have hq := HQ.out
    rw [rbody_16 b s f (.inl HK.out)] at hq
    obtain ⟨⟨s1, n⟩, hv⟩ : ∃ q, rvar b s = q := ⟨_, rfl⟩
    rw [hv] at hq
    simp only [] at hq
    obtain ⟨s', f'⟩ := q
    have HQ2 := Lib.hid hq
    have HV := Lib.hid hv
    clear hq hv HQ
    have hn := fnum_any b w0 vb B w s H0.out.rs
    rw [HV.out] at hn
    go_wp2_with fail
    refine hn.mono ?_
    rintro e w2 ⟨rfl, m2, r2⟩
    have h2 := H0.out.fs.step m2 r2
    obtain ⟨⟨ur2, ud2, uc2, ut2, rr2⟩, ff⟩ := h2.cells
    have c1 : w2.cell? ⟨Bf, 1, none⟩ = some (.int .u64 (f.n : Nat)) := row?_cell rr2 1
    have H2 := Lib.hid h2
    clear h2 rr2 m2 r2 hn c0 RR
    simp only []
    go_wp2_with fail
    go_end0
    have h3 := H2.out.set_n n
    exact ⟨rfl, by have e := HQ2.out; cases e; exact h3⟩
  have q16 : (K == 16) = false := by simpa using k16
  by_cases k25 : K = 25
  case pos =>
    subst k25
    have hq := HQ.out
    rw [rbody_16 b s f (.inr HK.out)] at hq
    obtain ⟨⟨s1, n⟩, hv⟩ : ∃ q, rvar b s = q := ⟨_, rfl⟩
    rw [hv] at hq
    simp only [] at hq
    obtain ⟨s', f'⟩ := q
    have HQ2 := Lib.hid hq
    have HV := Lib.hid hv
    clear hq hv HQ
    have hn := fnum_any b w0 vb B w s H0.out.rs
    rw [HV.out] at hn
    go_wp2_with fail
    refine hn.mono ?_
    rintro e w2 ⟨rfl, m2, r2⟩
    have h2 := H0.out.fs.step m2 r2
    obtain ⟨⟨ur2, ud2, uc2, ut2, rr2⟩, ff⟩ := h2.cells
    have c1 : w2.cell? ⟨Bf, 1, none⟩ = some (.int .u64 (f.n : Nat)) := row?_cell rr2 1
    have H2 := Lib.hid h2
    clear h2 rr2 m2 r2 hn c0 RR
    simp only []
    go_wp2_with fail
    go_end0
    have h3 := H2.out.set_n n
    exact ⟨rfl, by have e := HQ2.out; cases e; exact h3⟩
  have q25 : (K == 25) = false := by simpa using k25
  by_cases k24 : K = 24
  case pos =>
    subst k24
    have hq := HQ.out
    rw [rbody_24 b s f (HK.out)] at hq
    obtain ⟨s', f'⟩ := q
    have HQ2 := Lib.hid hq
    clear hq HQ
    have hc := fcid_any b w0 vb B Bf N wS w s f H0.out.fs
    rw [HQ2.out] at hc
    go_wp2_with fail
    refine hc.mono ?_
    rintro e w1 ⟨rfl, h1⟩
    have H1 := Lib.hid h1
    clear h1 hc
    go_wp2_with fail
    go_end0
    exact ⟨rfl, H1.out⟩
  have q24 : (K == 24) = false := by simpa using k24
  by_cases k26 : K = 26
  case pos =>
    subst k26
    have hq := HQ.out
    rw [rbody_26 b s f (.inl HK.out)] at hq
    obtain ⟨⟨s1, l⟩, hv⟩ : ∃ q, rtake b 8 s = q := ⟨_, rfl⟩
    rw [hv] at hq
    simp only [] at hq
    obtain ⟨s', f'⟩ := q
    have HQ2 := Lib.hid hq
    have HV := Lib.hid hv
    clear hq hv HQ
    have hn := ftake_any b w0 vb B w s 8 (by omega) H0.out.rs
    rw [HV.out] at hn
    go_wp2_with fail
    refine hn.mono ?_
    rintro e w2 ⟨v2, rfl, o2, m2, r2⟩
    have h2 := H0.out.fs.step m2 r2
    have o2' := own_lower o2 H0.out.hN
    obtain ⟨⟨ur2, ud2, uc2, ut2, rr2⟩, ff⟩ := h2.cells
    have c7 : w2.cell? ⟨Bf, 7, none⟩ = some ud2 := row?_cell rr2 7
    obtain ⟨a2, x2, rfl, -, -, -⟩ := id (Own.sl o2)
    have H2 := Lib.hid h2
    have O2 := Lib.hid o2'
    clear h2 rr2 m2 r2 hn c0 RR o2 o2'
    simp only []
    go_wp2_with fail
    go_end0
    have h3 := H2.out.set_dat _ l O2.out
    exact ⟨rfl, by have e := HQ2.out; cases e; exact h3⟩
  have q26 : (K == 26) = false := by simpa using k26
  by_cases k27 : K = 27
  case pos =>
    subst k27
    have hq := HQ.out
    rw [rbody_26 b s f (.inr HK.out)] at hq
    obtain ⟨⟨s1, l⟩, hv⟩ : ∃ q, rtake b 8 s = q := ⟨_, rfl⟩
    rw [hv] at hq
    simp only [] at hq
    obtain ⟨s', f'⟩ := q
    have HQ2 := Lib.hid hq
    have HV := Lib.hid hv
    clear hq hv HQ
    have hn := ftake_any b w0 vb B w s 8 (by omega) H0.out.rs
    rw [HV.out] at hn
    go_wp2_with fail
    refine hn.mono ?_
    rintro e w2 ⟨v2, rfl, o2, m2, r2⟩
    have h2 := H0.out.fs.step m2 r2
    have o2' := own_lower o2 H0.out.hN
    obtain ⟨⟨ur2, ud2, uc2, ut2, rr2⟩, ff⟩ := h2.cells
    have c7 : w2.cell? ⟨Bf, 7, none⟩ = some ud2 := row?_cell rr2 7
    obtain ⟨a2, x2, rfl, -, -, -⟩ := id (Own.sl o2)
    have H2 := Lib.hid h2
    have O2 := Lib.hid o2'
    clear h2 rr2 m2 r2 hn c0 RR o2 o2'
    simp only []
    go_wp2_with fail
    go_end0
    have h3 := H2.out.set_dat _ l O2.out
    exact ⟨rfl, by have e := HQ2.out; cases e; exact h3⟩
  have q27 : (K == 27) = false := by simpa using k27
  by_cases k28 : K = 28
  case pos =>
    subst k28
    have hq := HQ.out
    rw [rbody_28 b s f (HK.out)] at hq
    obtain ⟨⟨s1, n⟩, hv⟩ : ∃ q, rvar b s = q := ⟨_, rfl⟩
    rw [hv] at hq
    simp only [] at hq
    obtain ⟨s', f'⟩ := q
    have HQ2 := Lib.hid hq
    have HV := Lib.hid hv
    clear hq hv HQ
    have hn := fnum_any b w0 vb B w s H0.out.rs
    rw [HV.out] at hn
    go_wp2_with fail
    refine hn.mono ?_
    rintro e w2 ⟨rfl, m2, r2⟩
    have h2 := H0.out.fs.step m2 r2
    obtain ⟨⟨ur2, ud2, uc2, ut2, rr2⟩, ff⟩ := h2.cells
    have c1 : w2.cell? ⟨Bf, 1, none⟩ = some (.int .u64 (f.n : Nat)) := row?_cell rr2 1
    have H2 := Lib.hid h2
    clear h2 rr2 m2 r2 hn c0 RR
    simp only []
    go_wp2_with fail
    have h3 := H2.out.set_n n
    generalize (w2.setCell ⟨Bf, 1, none⟩ (.int .u64 (n : Nat))) = w3 at h3 ⊢
    have H3 := Lib.hid h3
    clear h3 c1 ff H2
    refine (fzero_any b w0 vb B w3 s1 H3.out.rs).mono ?_
    rintro e w4 ⟨rfl, m4, r4⟩
    have H4 := Lib.hid (H3.out.step m4 r4)
    clear m4 r4 H3
    go_wp2_with fail
    refine (fzero_any b w0 vb B w4 _ H4.out.rs).mono ?_
    rintro e w5 ⟨rfl, m5, r5⟩
    have H5 := Lib.hid (H4.out.step m5 r5)
    clear m5 r5 H4
    go_wp2_with fail
    go_end0
    exact ⟨rfl, by have e := HQ2.out; cases e; exact H5.out⟩
  have q28 : (K == 28) = false := by simpa using k28
  have hq := HQ.out
  have HKK := HK.out
  rw [rbody_no b s f (by rw [HKK]; omega)] at hq
  obtain ⟨at_, er⟩ := s
  have c2 : w.cell? ⟨B, 2, none⟩ = some (.int .i64 er) := row?_cell H0.out.rs.row 2
  have ff := row?_frozen H0.out.rs.row
  obtain ⟨s', f'⟩ := q
  have HQ2 := Lib.hid hq
  clear hq HQ HKK
  go_wp2_with fail
  go_end0
  have m : Mut B w (w.setCell ⟨B, 2, none⟩ (.int .i64 6)) := (Mut.refl _ _).setCell _ _ _
  have h3 := H0.out.fs.step m (s' := (at_, 6)) (H0.out.rs.mut m (by rw [row?_setCell_eq H0.out.rs.row]; rfl) H0.out.rs.at_)
  exact ⟨rfl, by have e := HQ2.out; cases e; exact h3⟩
end Go.Proofs.Ytipniobgijdlkaa
