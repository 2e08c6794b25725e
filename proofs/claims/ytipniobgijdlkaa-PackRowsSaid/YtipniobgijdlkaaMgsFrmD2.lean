/- The walk of the document's reader of frames: the ranges of an Ack. -/
import Derived.Test.YtipniobgijdlkaaMgs22
import Derived.Test.YtipniobgijdlkaaMgsFrmW3
namespace Frm
open Go Go.RowKit Go.Rw Hdr
def vMax : Nat := 4611686018427387903
/-- The ranges of an Ack behind the first, so many at most. -/
def dgo (b : List UInt8) : Nat → Nat × Int → List (Nat × Nat) → (Nat × Int) × List (Nat × Nat)
  | 0, s, acc => (s, acc)
  | m + 1, s, acc =>
    if s.2 ≠ 0 then (s, acc) else if (dnum b vMax s).1.2 ≠ 0 then ((dnum b vMax s).1, acc)
    else if rlo acc (acc.length - 1) < 2 ∨ rlo acc (acc.length - 1) - 2 < (dnum b vMax s).2 then (((dnum b vMax s).1.1, 5), acc)
    else
      let top := rlo acc (acc.length - 1) - 2 - (dnum b vMax s).2
      let l := dnum b top (dnum b vMax s).1
      if l.1.2 ≠ 0 then (l.1, acc) else dgo b m l.1 (acc ++ [(top - l.2, top)])
theorem dgo_bad {b : List UInt8} {m : Nat} {s : Nat × Int} {acc : List (Nat × Nat)} (h : s.2 ≠ 0) : dgo b m s acc = (s, acc) := by
  cases m
  · rfl
  · show (if s.2 ≠ 0 then _ else _) = _
    rw [if_pos h]
theorem dgo_ok (b : List UInt8) (m at_ : Nat) (acc : List (Nat × Nat)) : dgo b (m + 1) (at_, 0) acc =
    (if (dnum b vMax (at_, 0)).1.2 ≠ 0 then ((dnum b vMax (at_, 0)).1, acc)
    else if rlo acc (acc.length - 1) < 2 ∨ rlo acc (acc.length - 1) - 2 < (dnum b vMax (at_, 0)).2 then (((dnum b vMax (at_, 0)).1.1, 5), acc)
    else
      let top := rlo acc (acc.length - 1) - 2 - (dnum b vMax (at_, 0)).2
      let l := dnum b top (dnum b vMax (at_, 0)).1
      if l.1.2 ≠ 0 then (l.1, acc) else dgo b m l.1 (acc ++ [(top - l.2, top)])) := by
  show (if ((at_, (0 : Int)) : Nat × Int).2 ≠ 0 then _ else _) = _
  rw [if_neg (by simp)]
def dack (b : List UInt8) (s : Nat × Int) (f : Fr) : (Nat × Int) × Fr :=
  let h := dnum b vMax s
  let d := dnum b vMax h.1
  let m := dnum b 7 d.1
  let l := dnum b h.2 m.1
  if l.1.2 ≠ 0 then (l.1, { f with d := d.2 }) else
    let r := dgo b m.2 l.1 [(h.2 - l.2, h.2)]
    (r.1, { f with d := d.2, rs := r.2 })
theorem rlo_end (acc : List (Nat × Nat)) (x : Nat × Nat) (n : Nat) (hn : n = acc.length) : rlo (acc ++ [x]) n = x.1 := by
  subst hn
  unfold rlo
  simp
theorem own_row1 {w : World} {N : Nat} {tr : TypeId} (x y : Nat) (h : N ≤ w.heap.size) : (w.alloc (.cells #[.int .u64 (x : Nat), .int .u64 (y : Nat)] tr)).ownsRow N tr 2 (.slice (some ⟨w.heap.size, 0, none⟩) 1 1) [(x, y)].length (rcells [(x, y)]) :=
  ⟨rfl, .inr ⟨w.heap.size, 1, _, rfl, h, heap_alloc_new w _, Nat.le_refl 1, by unfold maxLen; omega, rfl, rfl⟩⟩
end Frm
namespace Go.Proofs.Ytipniobgijdlkaa
open Go.RowKit Go.Rw Frm Hdr
theorem dnumM_any (b : List UInt8) (w0 : World) (vb : Value) (B : Nat) (w : World) (s : Nat × Int) (hr : RS b w0 vb B w s) :
    Calls Try.prog 57 #[.pointer (some ⟨B, 0, none⟩), .int .u64 4611686018427387903] w fun e w' => e = .returned (.int .u64 ((dnum b vMax s).2 : Nat)) ∧ Mut B w w' ∧ RS b w0 vb B w' (dnum b vMax s).1 := by
  have h := dnum_any b w0 vb B w s vMax hr
  unfold vMax at h ⊢
  exact h
attribute [local go_sem ↓] fvA_0 fvA_1 fvA_2 fvA_3 fvA_4 fvA_5 fvA_6 fvA_7 fvA_8 fvA_9
attribute [local go_sem] buildRg
set_option maxRecDepth 400000 in
set_option maxHeartbeats 8000000 in
theorem dack_any (b : List UInt8) (w0 : World) (vb : Value) (B Bf N : Nat) (wS w : World) (s : Nat × Int) (f : Fr) (hfr : f.rs = []) (h : FSA b w0 vb B Bf N 58 5 wS w s f) :
    Calls Try.prog 56 #[.pointer (some ⟨B, 0, none⟩), .pointer (some ⟨Bf, 0, none⟩)] w fun e w' => e = .returned (.tuple #[]) ∧ FS b w0 vb B Bf N 58 5 wS w' (dack b s f).1 (dack b s f).2 := by
  unfold dack
  obtain ⟨i0, hi0, hz0, hz1, hz2⟩ := info_parts infoRg
  have hh := dnum_lt62 b vMax s
  have hn1 := dnumM_any b w0 vb B w s h.rs
  obtain ⟨q1, hq1⟩ : ∃ q, dnum b vMax s = q := ⟨_, rfl⟩
  rw [hq1] at hh hn1 ⊢
  obtain ⟨s1, hi⟩ := q1
  simp only [] at hh hn1 ⊢
  obtain ⟨q2, hq2⟩ : ∃ q, dnum b vMax s1 = q := ⟨_, rfl⟩
  rw [hq2]
  obtain ⟨s2, d⟩ := q2
  simp only []
  have hml := dnum_most b 7 s2
  obtain ⟨q3, hq3⟩ : ∃ q, dnum b 7 s2 = q := ⟨_, rfl⟩
  rw [hq3] at hml ⊢
  obtain ⟨s3, many⟩ := q3
  simp only [] at hml ⊢
  have hll := dnum_most b hi s3
  obtain ⟨q4, hq4⟩ : ∃ q, dnum b hi s3 = q := ⟨_, rfl⟩
  rw [hq4] at hll ⊢
  obtain ⟨⟨at4, er4⟩, long⟩ := q4
  simp only [] at hll ⊢
  obtain ⟨qF, hqF⟩ : ∃ q, (if er4 ≠ 0 then ((at4, er4), { f with d := d }) else ((dgo b many (at4, er4) [(hi - long, hi)]).1, { f with d := d, rs := (dgo b many (at4, er4) [(hi - long, hi)]).2 })) = q := ⟨_, rfl⟩
  rw [hqF]
  have H0 := Lib.hid h
  have HN1 := Lib.hid hn1
  have E2 := Lib.hid hq2
  have E3 := Lib.hid hq3
  have E4 := Lib.hid hq4
  have EF := Lib.hid hqF
  have HFR := Lib.hid hfr
  have HB := Lib.hid (And.intro hh (And.intro hml hll))
  clear h hn1 hq1 hq2 hq3 hq4 hqF hfr hh hml hll
  go_enter Try.func56, Try.ntmps56
  go_wp2_with fail
  refine HN1.out.mono ?_
  rintro e w1 ⟨rfl, m1, r1⟩
  have H1 := Lib.hid (H0.out.step m1 r1)
  clear m1 r1 H0 HN1
  simp only []
  go_wp2_with fail
  have hn2 := dnumM_any b w0 vb B w1 s1 H1.out.rs
  rw [E2.out] at hn2
  refine hn2.mono ?_
  rintro e w2 ⟨rfl, m2, r2⟩
  have h2 := H1.out.step m2 r2
  obtain ⟨⟨ur, ud, uc, ut, rr⟩, ff⟩ := h2.fs.cells
  have cc : w2.cell? ⟨Bf, 2, none⟩ = some (.int .u64 (f.d : Nat)) := row?_cell rr 2
  have H2 := Lib.hid h2
  clear h2 rr m2 r2 H1 hn2
  simp only []
  go_wp2_with fail
  have h3 := H2.out.set_d d
  clear cc ff H2
  generalize (w2.setCell ⟨Bf, 2, none⟩ (.int .u64 (d : Nat))) = w3 at h3 ⊢
  have H3 := Lib.hid h3
  clear h3
  have hn3 := dnum_any b w0 vb B w3 s2 7 H3.out.rs
  rw [E3.out] at hn3
  refine hn3.mono ?_
  rintro e w4 ⟨rfl, m4, r4⟩
  have H4 := Lib.hid (H3.out.step m4 r4)
  clear m4 r4 H3 hn3
  simp only []
  go_wp2_with fail
  have hn4 := dnum_any b w0 vb B w4 s3 hi H4.out.rs
  rw [E4.out] at hn4
  refine hn4.mono ?_
  rintro e w5 ⟨rfl, m5, r5⟩
  have h5 := H4.out.step m5 r5
  have c2 : w5.cell? ⟨B, 2, none⟩ = some (.int .i64 er4) := row?_cell h5.rs.row 2
  have H5 := Lib.hid h5
  clear m5 r5 H4 hn4 h5
  simp only []
  by_cases z4 : er4 = 0
  case neg =>
    have q4 : (er4 != 0) = true := by simpa using z4
    have hE := EF.out
    rw [if_pos z4] at hE
    have HE := Lib.hid hE
    clear hE EF z4
    go_wp2_with fail
    refine bodyPost_ret (results_none rfl _ _ _) rfl ⟨rfl, ?_⟩
    rw [← HE.out]
    exact H5.out.fs
  subst z4
  have hE := EF.out
  rw [if_neg (by simp)] at hE
  have hw1 : IntKind.u64.wrap ((hi : Int) - (long : Int)) = ((hi - long : Nat) : Int) := by have := HB.out; simp only [IntKind.wrap_u64]; omega
  obtain ⟨lo, hlo⟩ : ∃ lo, hi - long = lo := ⟨_, rfl⟩
  rw [hlo] at hE hw1
  obtain ⟨qG, hqG⟩ : ∃ q, dgo b many (at4, 0) [(lo, hi)] = q := ⟨_, rfl⟩
  rw [hqG] at hE
  obtain ⟨sF, rF⟩ := qG
  simp only [] at hE
  have HE := Lib.hid hE
  have HG := Lib.hid hqG
  have HL := Lib.hid (show lo < 4611686018427387904 by have := HB.out; omega)
  clear hE hqG hlo EF
  obtain ⟨ur, fa5⟩ := H5.out.fa
  have h6 := H5.out.app fa5 (grown_alloc w5 (.cells #[.int .u64 (lo : Nat), .int .u64 (hi : Nat)] 58) ur.ownBlock) (v' := .slice (some ⟨w5.heap.size, 0, none⟩) 1 1) (l' := [(lo, hi)]) (own_row1 lo hi H5.out.hN)
  have r6 := (row?_alloc_past w5 (.cells #[.int .u64 (lo : Nat), .int .u64 (hi : Nat)] 58) Bf (row?_lt fa5.row)).trans fa5.row
  have c6 := row?_cell r6 3
  have ff6 := row?_frozen r6
  have H6 := Lib.hid h6
  clear h6 r6 fa5
  go_wp2_with fail
  go_loopw [6, 7, 8, 9, 10] (fun _ v7 _ _ _ wr => ∃ (i : Nat) (s' : Nat × Int) (acc : List (Nat × Nat)), i ≤ many ∧ v7 = .int .u64 (i : Nat) ∧ FSA b w0 vb B Bf N 58 5 wS wr s' { f with d := d, rs := acc } ∧ dgo b (many - i) s' acc = (sF, rF) ∧ acc.length ≤ i + 1 ∧ 1 ≤ acc.length ∧ rlo acc (acc.length - 1) < 4611686018427387904) (fun _ v7 _ _ _ _ => many + 1 - (intOf v7).toNat)
  case atStart => exact ⟨0, (at4, 0), [(lo, hi)], by omega, rfl, H6.out, HG.out, by simp, by simp, by show rlo [(lo, hi)] 0 < _; exact HL.out⟩
  case round =>
    obtain ⟨i, s', acc, him, rfl, hF, hE, hal, ha1, hlo⟩ := hrel
    obtain ⟨at5, er5⟩ := s'
    have c2 : wr.cell? ⟨B, 2, none⟩ = some (.int .i64 er5) := row?_cell hF.rs.row 2
    have HF := Lib.hid hF
    have HX := Lib.hid hE
    clear hF hE c6 ff6 H6 H5
    by_cases hlt : i < many
    case neg =>
      have p : decide (i < many) = false := decide_eq_false hlt
      obtain rfl : i = many := by omega
      clear him hlt
      go_wp2_with fail
      go_end0
      refine ⟨rfl, ?_⟩
      have e := HX.out
      rw [Nat.sub_self] at e
      obtain rfl : (at5, er5) = sF := congrArg Prod.fst e
      obtain rfl : acc = rF := congrArg Prod.snd e
      rw [← HE.out]
      exact HF.out.fs
    have p : decide (i < many) = true := decide_eq_true hlt
    by_cases z5 : er5 = 0
    case neg =>
      have q5 : (er5 == 0) = false := by simpa using z5
      have Z5 := Lib.hid z5
      clear him hlt z5
      go_wp2_with fail
      go_end0
      refine ⟨rfl, ?_⟩
      have e := HX.out
      rw [dgo_bad Z5.out] at e
      obtain rfl : (at5, er5) = sF := congrArg Prod.fst e
      obtain rfl : acc = rF := congrArg Prod.snd e
      rw [← HE.out]
      exact HF.out.fs
    subst z5
    obtain ⟨m, hm⟩ : ∃ m, many - i = m + 1 := ⟨many - i - 1, by omega⟩
    have hX := HX.out
    rw [hm, dgo_ok] at hX
    obtain ⟨j, hj⟩ : ∃ j, acc.length = j + 1 := ⟨acc.length - 1, by omega⟩
    rw [show acc.length - 1 = j by omega] at hX hlo
    obtain ⟨ur, fa⟩ := HF.out.fa
    obtain ⟨ar, er, rfl, -, -, hp⟩ := id (Own.sr fa.rs)
    obtain ⟨g, off, rfl, hcell⟩ := hp (show 0 < acc.length by omega)
    have cl := (hcell j (show j < acc.length by omega)).1
    have hloj := Lib.hid hlo
    obtain ⟨lo2, hlo2⟩ : ∃ lo2, rlo acc j = lo2 := ⟨_, rfl⟩
    rw [hlo2] at hX cl hlo
    have c3 : wr.cell? ⟨Bf, 3, none⟩ = some (.slice (some ⟨g, off, none⟩) acc.length er) := row?_cell fa.row 3
    have ffF := row?_frozen fa.row
    have hwj : wrap64 ((acc.length : Int) - 1) = (j : Nat) := by unfold wrap64; have := HB.out; omega
    have hji : j < acc.length := by omega
    have hx9 := dnum_lt62 b vMax (at5, 0)
    obtain ⟨q9, hq9⟩ : ∃ q, dnum b vMax (at5, 0) = q := ⟨_, rfl⟩
    rw [hq9] at hX hx9
    obtain ⟨⟨at9, er9⟩, gap⟩ := q9
    simp only [] at hX hx9
    have HXX := Lib.hid hX
    have H9q := Lib.hid hq9
    have HI := Lib.hid (And.intro hm (And.intro hj (And.intro him (And.intro hal ha1))))
    have hiw : IntKind.u64.wrap ((i : Int) + 1) = (i : Int) + 1 := by have := HB.out; simp only [IntKind.wrap_u64]; omega
    clear hX hq9 HX hm him hal ha1 fa hp hcell hlo2 hj
    go_wp2_with fail
    refine Rg.wp_region_plan (Rg.row [(0, 3), (1, 3), (2, 3), (3, 0), (4, 3), (5, 3), (6, 3), (7, 0), (8, 0), (9, 3), (10, 3), (11, 3), (12, 0), (13, 3)] []) [] (by kernel_rfl) (by kernel_rfl) ?_
    simp only [Rg.row, Rg.PT.map, List.map_nil, List.getD_cons_zero, List.getD_cons_succ]
    go_wp2_with (first
      | ((with_reducible refine Rg.plan_pure ?_ ?_ ?_); kernel_rfl; kernel_rfl; intro _ _)
      | ((with_reducible refine Rg.plan_take ?_ ?_ ?_); kernel_rfl; kernel_rfl; intro _ _)
      | ((with_reducible refine Rg.plan_keep ?_ ?_); kernel_rfl; intro K hK)
      | (refine hK _ _ (Rg.Keep.refl _) ?_; clear hK)
      | (refine hK _ _ (Rg.Keep.of_below (by assumption)) ?_; clear hK)
      | ((with_reducible refine Rg.plan_skip ?_ ?_); kernel_rfl)
      | (with_reducible refine Rg.plan_done ?_)
      | (with_reducible refine Rg.calm_normal ?_))
    have hn9 := dnumM_any b w0 vb B wr.drew (at5, 0) (RSdrew HF.out.rs)
    rw [H9q.out] at hn9
    refine hn9.mono ?_
    rintro e w9 ⟨rfl, m9, r9⟩
    have h9 := (HF.out.quiet (Below.refl _ _).drew).step m9 r9
    have c2 : w9.cell? ⟨B, 2, none⟩ = some (.int .i64 er9) := row?_cell h9.rs.row 2
    have ffB := row?_frozen h9.rs.row
    have H9 := Lib.hid h9
    clear h9 m9 r9 hn9 c3 ffF cl hwj HF H9q
    obtain ⟨y, hy⟩ : ∃ y : Nat, IntKind.u64.wrap ((lo2 : Int) - 2) = y := ⟨(IntKind.u64.wrap ((lo2 : Int) - 2)).toNat, by simp only [IntKind.wrap_u64]; omega⟩
    obtain ⟨T, hT⟩ : ∃ T : Nat, IntKind.u64.wrap ((y : Int) - (gap : Int)) = T := ⟨(IntKind.u64.wrap ((y : Int) - (gap : Int))).toNat, by simp only [IntKind.wrap_u64]; omega⟩
    by_cases z9 : er9 = 0
    case neg =>
      have q9 : (er9 == 0) = false := by simpa using z9
      have hX := HXX.out
      rw [if_pos z9] at hX
      have HX2 := Lib.hid hX
      have hn := dnum_any b w0 vb B w9 (at9, er9) T H9.out.rs
      rw [dnum_bad (s := (at9, er9)) z9] at hn
      have HN := Lib.hid hn
      have Z9 := Lib.hid z9
      clear hX HXX z9 hn
      go_wp2_with fail
      refine HN.out.mono ?_
      rintro e w10 ⟨rfl, m10, r10⟩
      have h10 := H9.out.step m10 r10
      have c2' : w10.cell? ⟨B, 2, none⟩ = some (.int .i64 er9) := row?_cell h10.rs.row 2
      have H10 := Lib.hid h10
      clear h10 m10 r10 H9 c2 ffB hy hT HN
      go_wp2_with fail
      go_roundw
      case rel => exact ⟨i + 1, (at9, er9), acc, by have := HI.out; omega, by go_num, H10.out, by rw [dgo_bad Z9.out]; exact HX2.out, by have := HI.out; omega, by have := HI.out; omega, by rw [show acc.length - 1 = j by have := HI.out; omega]; exact hloj.out⟩
      case measure => have := HI.out; simp [intOf]; omega
    subst z9
    have hX := HXX.out
    rw [if_neg (by simp)] at hX
    by_cases g1 : lo2 < 2
    case pos =>
      have p1 : decide ((lo2 : Int) < 2) = true := decide_eq_true (by omega)
      rw [if_pos (Or.inl g1)] at hX
      have HX2 := Lib.hid hX
      clear hX HXX g1 hy hT
      go_wp2_with fail
      refine bodyPost_ret (results_none rfl _ _ _) rfl ⟨rfl, ?_⟩
      have e := HX2.out
      obtain rfl : (at9, 5) = sF := congrArg Prod.fst e
      obtain rfl : acc = rF := congrArg Prod.snd e
      rw [← HE.out]
      have m : Mut B w9 (w9.setCell ⟨B, 2, none⟩ (.int .i64 5)) := (Mut.refl _ _).setCell _ _ _
      exact (H9.out.step m (H9.out.rs.mut (s' := (at9, 5)) m (by rw [row?_setCell_eq H9.out.rs.row]; rfl) H9.out.rs.at_)).fs
    have p1 : decide ((lo2 : Int) < 2) = false := decide_eq_false (by omega)
    obtain rfl : y = lo2 - 2 := by simp only [IntKind.wrap_u64] at hy; omega
    by_cases g2 : lo2 - 2 < gap
    case pos =>
      have p2 : decide (lo2 - 2 < gap) = true := decide_eq_true g2
      have p3 : decide (((lo2 - 2 : Nat) : Int) < (gap : Int)) = true := decide_eq_true (by omega)
      rw [if_pos (Or.inr g2)] at hX
      have HX2 := Lib.hid hX
      clear hX HXX g1 g2 hT
      go_wp2_with fail
      refine bodyPost_ret (results_none rfl _ _ _) rfl ⟨rfl, ?_⟩
      have e := HX2.out
      obtain rfl : (at9, 5) = sF := congrArg Prod.fst e
      obtain rfl : acc = rF := congrArg Prod.snd e
      rw [← HE.out]
      have m : Mut B w9 (w9.setCell ⟨B, 2, none⟩ (.int .i64 5)) := (Mut.refl _ _).setCell _ _ _
      exact (H9.out.step m (H9.out.rs.mut (s' := (at9, 5)) m (by rw [row?_setCell_eq H9.out.rs.row]; rfl) H9.out.rs.at_)).fs
    have p2 : decide (lo2 - 2 < gap) = false := decide_eq_false g2
    have p3 : decide (((lo2 - 2 : Nat) : Int) < (gap : Int)) = false := decide_eq_false (by omega)
    obtain rfl : T = lo2 - 2 - gap := by simp only [IntKind.wrap_u64] at hT; omega
    rw [if_neg (by omega)] at hX
    obtain ⟨top, htop⟩ : ∃ top, lo2 - 2 - gap = top := ⟨_, rfl⟩
    rw [htop] at hX hT
    have hlt14 := dnum_most b top (at9, 0)
    obtain ⟨q14, hq14⟩ : ∃ q, dnum b top (at9, 0) = q := ⟨_, rfl⟩
    rw [hq14] at hX hlt14
    obtain ⟨⟨at14, er14⟩, ln⟩ := q14
    simp only [] at hX hlt14
    have hn := dnum_any b w0 vb B w9 (at9, 0) top H9.out.rs
    rw [hq14] at hn
    have HN := Lib.hid hn
    have HT := Lib.hid (And.intro htop (And.intro hlo hlt14))
    have HX3 := Lib.hid hX
    clear hn hq14 hX HXX g1 g2 htop hlo hlt14
    go_wp2_with fail
    refine HN.out.mono ?_
    rintro e w14 ⟨rfl, m14, r14⟩
    have h14 := H9.out.step m14 r14
    have c2' : w14.cell? ⟨B, 2, none⟩ = some (.int .i64 er14) := row?_cell h14.rs.row 2
    obtain ⟨ur, fa14⟩ := h14.fa
    obtain ⟨ar, er, rfl, -, -, -⟩ := id (Own.sr fa14.rs)
    have c3 : w14.cell? ⟨Bf, 3, none⟩ = some (.slice ar acc.length er) := row?_cell fa14.row 3
    have ffF := row?_frozen fa14.row
    have FA := Lib.hid fa14
    have H14 := Lib.hid h14
    clear h14 m14 r14 H9 c2 ffB hy hT HN fa14 p1 p2 p3
    by_cases z14 : er14 = 0
    case neg =>
      have q14 : (er14 == 0) = false := by simpa using z14
      have hX := HX3.out
      rw [if_pos z14] at hX
      have HX2 := Lib.hid hX
      have Z14 := Lib.hid z14
      clear hX HX3 z14
      go_wp2_with fail
      go_roundw
      case rel => exact ⟨i + 1, (at14, er14), acc, by have := HI.out; omega, by go_num, H14.out, by rw [dgo_bad Z14.out]; exact HX2.out, by have := HI.out; omega, by have := HI.out; omega, by rw [show acc.length - 1 = j by have := HI.out; omega]; exact hloj.out⟩
      case measure => have := HI.out; simp [intOf]; omega
    subst z14
    have hX := HX3.out
    rw [if_neg (by simp)] at hX
    have hw14 : IntKind.u64.wrap ((top : Int) - (ln : Int)) = ((top - ln : Nat) : Int) := by have := HT.out; simp only [IntKind.wrap_u64]; omega
    obtain ⟨nlo, hnlo⟩ : ∃ nlo, top - ln = nlo := ⟨_, rfl⟩
    rw [hnlo] at hX hw14
    have HNL := Lib.hid (show nlo < 4611686018427387904 by have := HT.out; omega)
    have HX2 := Lib.hid hX
    clear hX HX3 hnlo
    go_wp2_with (at_builtin; refine wpList_append_own _ rfl _ _ 26 rfl N 58 i0 (.agg #[.int .u64 0, .int .u64 0]) 2 16 Try.underlying26 hi0 hz0 hz1 hz2 rfl (by decide) _ acc.length _ rfl (FA.out.rs.alloc _) ⟨_, 0, none⟩ 1 1 [.int .u64 (nlo : Nat), .int .u64 (top : Nat)] rfl rfl ?c1X ?c2X ?c3X ?c4X ?c5X ?_)
    case c1X =>
      intro j u hj
      rw [Addr.add_lit, row?_cell (row?_alloc_at _ _ _ _ rfl)]
      match j, hj with
      | 0, hj => simp at hj; subst hj; rfl
      | 1, hj => simp at hj; subst hj; rfl
    case c2X =>
      intro u hu
      simp only [List.mem_cons, List.not_mem_nil, or_false] at hu
      rcases hu with rfl | rfl <;> rfl
    case c3X => have := HI.out; have := HB.out; unfold maxLen; omega
    case c4X => have := HI.out; have := HB.out; omega
    case c5X => have := H14.out.hN; simp; omega
    intro v7 w7 o7 g7 _
    obtain ⟨acc2, hacc2⟩ : ∃ acc2, acc ++ [(nlo, top)] = acc2 := ⟨_, rfl⟩
    have kacc2 : acc2.length = acc.length + 1 := by rw [← hacc2]; simp
    have o7' : w7.ownsRow N 58 2 v7 acc2.length (rcells acc2) := by rw [← hacc2, List.length_append, rcells_app]; exact o7
    have hbA := (Below.refl w14.heap.size w14).alloc (Nat.le_refl _) (.cells #[.int .u64 (nlo : Nat), .int .u64 (top : Nat)] 58)
    have h7 := H14.out.quiet hbA
    have fa7 := FA.out.mut (Mut.of_below (B := B) hbA) H14.out.ne H14.out.hB
    have rF7 := row_grown g7 fa7.row (fun e => by have := (fa7.rs.lt Bf e.symm).1; have := H14.out.hBf; omega)
    have c3' : w7.cell? ⟨Bf, 3, none⟩ = some (.slice ar acc.length er) := row?_cell rF7 3
    have ff' := row?_frozen rF7
    have h8 := h7.app fa7 g7 o7'
    obtain ⟨a7, x7, rfl, -, -, -⟩ := id (Own.sr o7')
    have H8 := Lib.hid h8
    have hX := HX2.out
    rw [hacc2] at hX
    have HX4 := Lib.hid hX
    have hrl : rlo acc2 acc.length = nlo := by rw [← hacc2]; exact rlo_end _ _ _ rfl
    have HRL := Lib.hid hrl
    have HKA := Lib.hid kacc2
    clear o7 o7' g7 hbA h7 fa7 rF7 h8 c3 ffF FA H14 hw14 hX HX2 hacc2 hrl kacc2
    go_wp2_with fail
    go_roundw
    case rel => exact ⟨i + 1, (at14, 0), acc2, by have := HI.out; omega, by go_num, H8.out, by rw [show many - (i + 1) = m by have := HI.out; omega]; exact HX4.out, by have := HI.out; have := HKA.out; omega, by have := HI.out; have := HKA.out; omega, by rw [show acc2.length - 1 = acc.length by have := HKA.out; omega, HRL.out]; exact HNL.out⟩
    case measure => have := HI.out; simp [intOf]; omega
end Go.Proofs.Ytipniobgijdlkaa
