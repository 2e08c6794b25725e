/- The walk of package frame's reader: the ranges of an Ack. -/
import Derived.Test.YtipniobgijdlkaaMgs13
import Derived.Test.YtipniobgijdlkaaMgs14
import Derived.ScopeJumps
import Derived.WalkMore
import Derived.Laws.AppendOwn
namespace Frm
open Go Go.RowKit Go.Rw Hdr
/-- As FS, of a frame that has ranges alone. -/
structure FSA (b : List UInt8) (w0 : World) (vb : Value) (B Bf N : Nat) (tr tb : TypeId) (wS : World) (w : World) (s : Nat × Int) (f : Fr) : Prop where
  rs : RS b w0 vb B w s
  fa : ∃ vr, FA N tr tb Bf w vr (.slice none 0 0) (.slice none 0 0) (.slice none 0 0) f
  ne : Bf ≠ B
  hB : B < N
  hBf : Bf < N
  low : w0.heap.size ≤ Bf
  hN : N ≤ w.heap.size
  hS : wS.heap.size ≤ N
  kept : Mut2 B Bf wS w
variable {b : List UInt8} {w0 : World} {vb : Value} {B Bf N : Nat} {tr tb : TypeId} {wS w w' : World} {s s' : Nat × Int} {f : Fr}
theorem FSA.fs (h : FSA b w0 vb B Bf N tr tb wS w s f) : FS b w0 vb B Bf N tr tb wS w s f := by
  obtain ⟨vr, fa⟩ := h.fa
  exact ⟨h.rs, ⟨_, _, _, _, fa⟩, h.ne, h.hB, h.hBf, h.low, h.hN, h.kept⟩
theorem FSA.step (h : FSA b w0 vb B Bf N tr tb wS w s f) (m : Mut B w w') (r : RS b w0 vb B w' s') : FSA b w0 vb B Bf N tr tb wS w' s' f := by
  obtain ⟨vr, fa⟩ := h.fa
  exact ⟨r, ⟨vr, fa.mut m h.ne h.hB⟩, h.ne, h.hB, h.hBf, h.low, Nat.le_trans h.hN m.size, h.hS, h.kept.trans (m.left Bf)⟩
theorem FSA.set_d (h : FSA b w0 vb B Bf N tr tb wS w s f) (x : Nat) : FSA b w0 vb B Bf N tr tb wS (w.setCell ⟨Bf, 2, none⟩ (.int .u64 (x : Nat))) s { f with d := x } := by
  obtain ⟨vr, fa⟩ := h.fa
  have m : Mut Bf w (w.setCell ⟨Bf, 2, none⟩ (.int .u64 (x : Nat))) := (Mut.refl _ _).setCell _ _ _
  exact ⟨h.rs.far m h.ne.symm h.low, ⟨vr, fa.set h.hBf 2 (.int .u64 (x : Nat)) rfl fa.rs fa.dat fa.cid fa.tok⟩, h.ne, h.hB, h.hBf, h.low, Nat.le_trans h.hN m.size, h.hS, h.kept.trans (m.right B)⟩
/-- Ranges put behind those that there are: a block of the frame's own turns, or a new one is made. -/
theorem FSA.app (h : FSA b w0 vb B Bf N tr tb wS w s f) {vr : Value} (fa : FA N tr tb Bf w vr (.slice none 0 0) (.slice none 0 0) (.slice none 0 0) f) {v' : Value} {l' : List (Nat × Nat)} (g : w.grownBy w' vr.ownBlock) (ho : w'.ownsRow N tr 2 v' l'.length (rcells l')) :
    FSA b w0 vb B Bf N tr tb wS (w'.setCell ⟨Bf, 3, none⟩ v') s { f with rs := l' } := by
  have hlow : ∀ k, vr.ownBlock = some k → N ≤ k := fun k hk => (fa.rs.lt k hk).1
  have nB : some B ≠ vr.ownBlock := fun e => by have := hlow B e.symm; have := h.hB; omega
  have nF : some Bf ≠ vr.ownBlock := fun e => by have := hlow Bf e.symm; have := h.hBf; omega
  have rB : row? w' B = _ := row_grown g h.rs.row nB
  have rF : row? w' Bf = _ := row_grown g fa.row nF
  have hsz := h.rs.bel.size
  have hlw := h.rs.low
  have hb : Below w0.heap.size w0 w' := h.rs.bel.grown g h.rs.bel.size (fun k hk => by have := hlow k hk; have := h.hB; omega)
  have r' : RS b w0 vb B w' s := ⟨rB, h.rs.at_, h.rs.len, h.rs.sl, hb, h.rs.low⟩
  have hd : f.dat = [] := List.eq_nil_of_length_eq_zero (by have := fa.dat; rcases this.2 with ⟨_, h0⟩ | ⟨_, _, _, e, _⟩ <;> first | exact h0 | cases e)
  have hc : f.cid = [] := List.eq_nil_of_length_eq_zero (by have := fa.cid; rcases this.2 with ⟨_, h0⟩ | ⟨_, _, _, e, _⟩ <;> first | exact h0 | cases e)
  have ht : f.tok = [] := List.eq_nil_of_length_eq_zero (by have := fa.tok; rcases this.2 with ⟨_, h0⟩ | ⟨_, _, _, e, _⟩ <;> first | exact h0 | cases e)
  have m : Mut Bf w' (w'.setCell ⟨Bf, 3, none⟩ v') := (Mut.refl _ _).setCell _ _ _
  have kw : Mut2 B Bf wS w' := ⟨g.os.trans h.kept.os, g.tape.trans h.kept.tape, g.output.trans h.kept.output, Nat.le_trans h.kept.size g.size, fun k hk h1 h2 => (g.block k (Nat.lt_of_lt_of_le hk h.kept.size) (fun e => by have := hlow k e.symm; have := h.hS; omega)).trans (h.kept.block k hk h1 h2)⟩
  obtain ⟨k, n, d, rs, i, o, fin, dat, cid, tok⟩ := f
  simp only [] at hd hc ht
  subst hd hc ht
  exact ⟨r'.far m h.ne.symm h.low, ⟨v', ⟨by rw [row?_setCell_eq rF]; rfl, Mut.ownS m ho h.hBf, World.ownsRow_nil _ _ _ _, World.ownsRow_nil _ _ _ _, World.ownsRow_nil _ _ _ _⟩⟩, h.ne, h.hB, h.hBf, h.low, Nat.le_trans h.hN (Nat.le_trans g.size m.size), h.hS, kw.trans (m.right B)⟩
theorem FSA.quiet (h : FSA b w0 vb B Bf N tr tb wS w s f) (hb : Below w.heap.size w w') : FSA b w0 vb B Bf N tr tb wS w' s f :=
  h.step (Mut.of_below hb) (h.rs.mut (Mut.of_below hb) (by rw [row?_below hb (row?_lt h.rs.row)]; exact h.rs.row) h.rs.at_)
theorem rgo_eq (b : List UInt8) (many hi : Nat) (s : Nat × Int) (acc : List (Nat × Nat)) : rgo b many hi s acc =
    (let s2 := rfail (decide (hi < (rvar b s).2)) 5 (rvar b s).1
    if s2.2 ≠ 0 then (s2, acc) else
      match many with
      | 0 => (s2, acc ++ [(hi - (rvar b s).2, hi)])
      | m + 1 =>
        let s4 := rfail (decide ((rvar b s2).1.2 = 0) && (decide (hi - (rvar b s).2 < 2) || decide (hi - (rvar b s).2 - 2 < (rvar b s2).2))) 5 (rvar b s2).1
        if s4.2 ≠ 0 then (s4, acc ++ [(hi - (rvar b s).2, hi)]) else rgo b m (hi - (rvar b s).2 - 2 - (rvar b s2).2) s4 (acc ++ [(hi - (rvar b s).2, hi)])) := by
  cases many <;> rfl
theorem rfail_no {fl : Bool} {x : Int} {s : Nat × Int} (hx : x ≠ 0) (h : (rfail fl x s).2 = 0) : fl = false ∧ s.2 = 0 := by
  unfold rfail at h
  cases fl
  · exact ⟨rfl, by simpa using h⟩
  · split at h
    · exact absurd h hx
    · rename_i h2; simp at h2; exact absurd h h2
end Frm
namespace Go.Proofs.Ytipniobgijdlkaa
open Go.RowKit Go.Rw Frm Hdr
attribute [local go_sem ↓] fvA_0 fvA_1 fvA_2 fvA_3 fvA_4 fvA_5 fvA_6 fvA_7 fvA_8 fvA_9
theorem infoRg : (Try.prog.info? 58).map (fun i => (i.zero, i.size, i.bytes)) = some (some (.agg #[.int .u64 0, .int .u64 0]), 2, 16) := by kernel_rfl
theorem buildRg (x y : Int) (w : World) : (Instr.build 58 #[(0, .int .u64 x), (1, .int .u64 y)]).run Try.prog w = .ok (.agg #[.int .u64 x, .int .u64 y]) w := Go.run_build w _ _ _ (by kernel_rfl)
attribute [local go_sem] buildRg
theorem J_of3 {J : Act → World → Prop} {F : Nat × Nat → (Nat → Value) → Array Value} {R : Nat × Nat → World → Prop} (h : ∀ a w, J a w ↔ ∃ x z, a = ⟨F x z, []⟩ ∧ R x w) {t : Array Value} {w : World} (x : Nat × Nat) (ht : t = F x (fun i => t.getD i undef)) (hr : R x w) : J ⟨t, []⟩ w :=
  (h _ _).2 ⟨x, fun i => t.getD i undef, by rw [← ht], hr⟩
set_option maxRecDepth 100000 in
set_option maxHeartbeats 8000000 in
theorem franges_any (b : List UInt8) (w0 : World) (vb : Value) (B Bf N : Nat) (wS w : World) (s : Nat × Int) (f : Fr) (hfr : f.rs = []) (h : FSA b w0 vb B Bf N 58 5 wS w s f) :
    Calls Try.prog 63 #[.pointer (some ⟨B, 0, none⟩), .pointer (some ⟨Bf, 0, none⟩)] w fun e w' => e = .returned (.tuple #[]) ∧ FS b w0 vb B Bf N 58 5 wS w' (rack b s f).1 (rack b s f).2 := by
  unfold rack
  obtain ⟨i0, hi0, hz0, hz1, hz2⟩ := info_parts infoRg
  have hh := rvar_lt62 b s
  have hn1 := fnum_any b w0 vb B w s h.rs
  obtain ⟨q1, hq1⟩ : ∃ q, rvar b s = q := ⟨_, rfl⟩
  rw [hq1] at hh hn1 ⊢
  obtain ⟨s1, hi⟩ := q1
  simp only [] at hh hn1 ⊢
  have hdl := rvar_lt62 b s1
  obtain ⟨q2, hq2⟩ : ∃ q, rvar b s1 = q := ⟨_, rfl⟩
  rw [hq2] at hdl ⊢
  obtain ⟨s2, d⟩ := q2
  simp only [] at hdl ⊢
  have hml := rvar_lt62 b s2
  obtain ⟨q3, hq3⟩ : ∃ q, rvar b s2 = q := ⟨_, rfl⟩
  rw [hq3] at hml ⊢
  obtain ⟨s3, many⟩ := q3
  simp only [] at hml ⊢
  rw [hfr]
  obtain ⟨s4, hs4⟩ : ∃ s4, rfail (decide (8 ≤ many)) 5 s3 = s4 := ⟨_, rfl⟩
  rw [hs4]
  have hmany : s4.2 = 0 → many ≤ 7 := fun e => by rw [← hs4] at e; have := (rfail_no (by decide) e).1; simp at this; omega
  obtain ⟨qF, hqF⟩ : ∃ q, rgo b many hi s4 [] = q := ⟨_, rfl⟩
  rw [hqF]
  obtain ⟨sF, rF⟩ := qF
  simp only []
  have H0 := Lib.hid h
  have HN1 := Lib.hid hn1
  have E2 := Lib.hid hq2
  have E3 := Lib.hid hq3
  have E4 := Lib.hid hs4
  have EF := Lib.hid hqF
  have HM := Lib.hid hmany
  have HFR := Lib.hid hfr
  clear h hn1 hq1 hq2 hq3 hs4 hqF hmany hfr
  obtain ⟨J, hJ⟩ : ∃ J : Act → World → Prop, ∀ a w', J a w' ↔ (∃ (x : Nat × Nat) (z : Nat → Value), a = ⟨(fun (x : Nat × Nat) (z : Nat → Value) => #[.pointer (some ⟨B, 0, none⟩), .pointer (some ⟨Bf, 0, none⟩), z 2, z 3, z 4, z 5, z 6, .int .u64 (x.2 : Nat), .int .u64 (x.1 : Nat), z 9, z 10, z 11, z 12, z 13, z 14, z 15, z 16, z 17, z 18, z 19, z 20, z 21, z 22, z 23, z 24, z 25, z 26, z 27, z 28, z 29, z 30, z 31, z 32, z 33, z 34, z 35, z 36, z 37, z 38, z 39, z 40, z 41, z 42, z 43, z 44, z 45, z 46, z 47, z 48, z 49, z 50, z 51, z 52, z 53, z 54, z 55, z 56, z 57, z 58, z 59, z 60, z 61, z 62, z 63, z 64, z 65, z 66, z 67, z 68, z 69, z 70]) x z, []⟩ ∧ (fun (x : Nat × Nat) (w' : World) => ∃ (s' : Nat × Int) (acc : List (Nat × Nat)), FSA b w0 vb B Bf N 58 5 wS w' s' { f with d := d, rs := acc } ∧ rgo b x.1 x.2 s' acc = (sF, rF) ∧ x.2 < 4611686018427387904 ∧ x.1 < 4611686018427387904 ∧ (s'.2 = 0 → x.1 + acc.length ≤ 7)) x w') := ⟨_, fun _ _ => Iff.rfl⟩
  have HJ := Lib.hid hJ
  clear hJ
  go_enter Try.func63, Try.ntmps63
  go_wp2_with fail
  refine wp_scope_jumps 0 J (fun a _ => (intOf (a.tmps.getD 8 undef)).toNat) rfl ?first ?pass
  case first =>
    go_wp2_with fail
    refine HN1.out.mono ?_
    rintro e w1 ⟨rfl, m1, r1⟩
    have H1 := Lib.hid (H0.out.step m1 r1)
    clear m1 r1 H0 HN1
    simp only []
    go_wp2_with fail
    have hn2 := fnum_any b w0 vb B w1 s1 H1.out.rs
    rw [E2.out] at hn2
    refine hn2.mono ?_
    rintro e w2 ⟨rfl, m2, r2⟩
    have h2 := H1.out.step m2 r2
    obtain ⟨⟨ur, ud, uc, ut, rr⟩, ff⟩ := h2.fs.cells
    have cc : w2.cell? ⟨Bf, 2, none⟩ = some (.int .u64 (f.d : Nat)) := row?_cell rr 2
    have H2 := Lib.hid h2
    clear h2 rr m2 r2 H1 hn2
    simp only []
    go_wp2_with fail
    have h3 := H2.out.set_d d
    clear cc ff H2
    generalize (w2.setCell ⟨Bf, 2, none⟩ (.int .u64 (d : Nat))) = w3 at h3 ⊢
    have H3 := Lib.hid h3
    clear h3
    have hn3 := fnum_any b w0 vb B w3 s2 H3.out.rs
    rw [E3.out] at hn3
    refine hn3.mono ?_
    rintro e w4 ⟨rfl, m4, r4⟩
    have H4 := Lib.hid (H3.out.step m4 r4)
    clear m4 r4 H3 hn3
    simp only []
    go_wp2_with fail
    have q8 : decide ((8 : Int) ≤ (many : Nat)) = decide (8 ≤ many) := decide_eq_decide.2 (by omega)
    rw [q8]
    refine (ffail_any b w0 vb B w4 s3 (decide (8 ≤ many)) 5 H4.out.rs).mono ?_
    rw [E4.out]
    rintro e wE ⟨rfl, mE, rE⟩
    have HX := H4.out.step mE rE
    obtain ⟨s', hs'⟩ : ∃ s', s4 = s' := ⟨_, rfl⟩
    obtain ⟨acc, hacc0⟩ : ∃ acc : List (Nat × Nat), [] = acc := ⟨_, rfl⟩
    have H := Lib.hid (show FSA b w0 vb B Bf N 58 5 wS wE s' { f with d := d, rs := acc } by rw [← hs', ← hacc0, ← HFR.out]; exact HX)
    have E := Lib.hid (show rgo b many hi s' acc = (sF, rF) by rw [← hs', ← hacc0]; exact EF.out)
    have HA := Lib.hid (show s'.2 = 0 → many + acc.length ≤ 7 by rw [← hs', ← hacc0]; exact fun h => by have := HM.out h; simpa using this)
    clear HX mE rE H4 hs' hacc0 q8
    generalize wE = W at H ⊢
    have hn := rvar_lt62 b s'
    obtain ⟨q5, hq5⟩ : ∃ q, rvar b s' = q := ⟨_, rfl⟩
    have hE := E.out
    rw [rgo_eq] at hE
    have hn5 := fnum_any b w0 vb B W s' H.out.rs
    rw [hq5] at hn hE hn5
    have E5 := Lib.hid hq5
    obtain ⟨s5, n⟩ := q5
    simp only [] at hn hE hn5
    obtain ⟨s6, hs6⟩ : ∃ s6, rfail (decide (hi < n)) 5 s5 = s6 := ⟨_, rfl⟩
    rw [hs6] at hE
    have HE := Lib.hid hE
    have E6 := Lib.hid hs6
    have HN5 := Lib.hid hn5
    clear hE hs6 hq5 E hn5
    go_wp2_with fail
    refine wp_label ?_
    go_wp2_with fail
    refine HN5.out.mono ?_
    rintro e w5 ⟨rfl, m5, r5⟩
    have H5 := Lib.hid (H.out.step m5 r5)
    clear m5 r5 H HN5
    go_wp2_with fail
    refine (ffail_any b w0 vb B w5 s5 (decide (hi < n)) 5 H5.out.rs).mono ?_
    rw [E6.out]
    rintro e w6 ⟨rfl, m6, r6⟩
    have H6 := Lib.hid (H5.out.step m6 r6)
    clear m6 r6 H5
    obtain ⟨at6, er6⟩ := s6
    by_cases z6 : er6 = 0
    case neg =>
      have q6 : (er6 != 0) = true := by simpa using z6
      have hE := HE.out
      rw [if_pos (by simpa using z6)] at hE
      have HE' := Lib.hid hE
      clear hE HE z6
      go_wp2_with fail
      simp only [Exit.jump]
      refine bodyPost_ret (results_none rfl _ _ _) rfl ⟨rfl, ?_⟩
      have e := HE'.out
      obtain rfl : (at6, er6) = sF := congrArg Prod.fst e
      obtain rfl : acc = rF := congrArg Prod.snd e
      exact H6.out.fs
    subst z6
    have hle : n ≤ hi := by have := (rfail_no (by decide) (show (rfail (decide (hi < n)) 5 s5).2 = 0 by rw [E6.out])).1; simp at this; omega
    have hz5 : s5.2 = 0 := (rfail_no (by decide) (show (rfail (decide (hi < n)) 5 s5).2 = 0 by rw [E6.out])).2
    have hacc : many + acc.length ≤ 7 := HA.out (by
      by_cases h0 : s'.2 = 0
      · exact h0
      · exfalso
        have e5 := rvar_bad (b := b) h0
        rw [E5.out] at e5
        have : s5 = s' := congrArg Prod.fst e5
        exact h0 (by rw [← this]; exact hz5))
    have hw1 : IntKind.u64.wrap ((hi : Int) - (n : Int)) = ((hi - n : Nat) : Int) := by simp only [IntKind.wrap_u64]; omega
    have hE := HE.out
    rw [if_neg (by simp)] at hE
    obtain ⟨lo, hlo⟩ : ∃ lo, hi - n = lo := ⟨_, rfl⟩
    rw [hlo] at hE hw1
    obtain ⟨acc2, hacc2⟩ : ∃ acc2, acc ++ [(lo, hi)] = acc2 := ⟨_, rfl⟩
    have kacc2 : acc2.length = acc.length + 1 := by rw [← hacc2]; simp
    rw [hacc2] at hE
    have HE2 := Lib.hid hE
    have HLO := Lib.hid hlo
    have hlol : lo ≤ hi := by omega
    have KA := Lib.hid kacc2
    obtain ⟨ur, fa6⟩ := H6.out.fa
    obtain ⟨ar, er, rfl, -, -, -⟩ := id (Own.sr fa6.rs)
    have c3 : w6.cell? ⟨Bf, 3, none⟩ = some (.slice ar acc.length er) := row?_cell fa6.row 3
    have ff := row?_frozen fa6.row
    have FA6 := Lib.hid fa6
    clear hE fa6 hlo HE kacc2 hz5
    go_wp2_with (at_builtin; refine wpList_append_own _ rfl _ _ 26 rfl N 58 i0 (.agg #[.int .u64 0, .int .u64 0]) 2 16 Try.underlying26 hi0 hz0 hz1 hz2 rfl (by decide) _ acc.length _ rfl (FA6.out.rs.alloc _) ⟨_, 0, none⟩ 1 1 [.int .u64 (lo : Nat), .int .u64 (hi : Nat)] rfl rfl ?c1X ?c2X ?c3X ?c4X ?c5X ?_)
    case c1X =>
      intro j u hj
      rw [Addr.add_lit, row?_cell (row?_alloc_at _ _ _ _ rfl)]
      match j, hj with
      | 0, hj => simp at hj; subst hj; rfl
      | 1, hj => simp at hj; subst hj; rfl
    case c2X =>
      intro u hu
      simp only [List.mem_cons, List.not_mem_nil, or_false] at hu
      rcases hu with rfl | rfl <;> rfl
    case c3X => unfold maxLen; omega
    case c4X => omega
    case c5X => have := H6.out.hN; simp; omega
    intro v7 w7 o7 g7 _
    have o7' : w7.ownsRow N 58 2 v7 acc2.length (rcells acc2) := by rw [← hacc2, List.length_append, rcells_app]; exact o7
    have hbA := (Below.refl w6.heap.size w6).alloc (Nat.le_refl _) (.cells #[.int .u64 (lo : Nat), .int .u64 (hi : Nat)] 58)
    have h7 := H6.out.quiet hbA
    have fa7 := FA6.out.mut (Mut.of_below (B := B) hbA) H6.out.ne H6.out.hB
    have rF7 := row_grown g7 fa7.row (fun e => by have := (fa7.rs.lt Bf e.symm).1; have := H6.out.hBf; omega)
    have c3' : w7.cell? ⟨Bf, 3, none⟩ = some (.slice ar acc.length er) := row?_cell rF7 3
    have ff' := row?_frozen rF7
    have h8 := h7.app fa7 g7 o7'
    obtain ⟨a7, x7, rfl, -, -, -⟩ := id (Own.sr o7')
    have H8 := Lib.hid h8
    clear o7 o7' g7 hbA h7 fa7 rF7 h8 c3 ff FA6 H6 hacc2 hw1
    by_cases hm0 : many = 0
    case pos =>
      subst hm0
      have HE3 := Lib.hid (show ((at6, (0 : Int)), acc2) = (sF, rF) from HE2.out)
      clear HE2
      go_wp2_with fail
      simp only [Exit.jump]
      refine bodyPost_ret (results_none rfl _ _ _) rfl ⟨rfl, ?_⟩
      have e := HE3.out
      obtain rfl : (at6, 0) = sF := congrArg Prod.fst e
      obtain rfl : acc2 = rF := congrArg Prod.snd e
      exact H8.out.fs
    obtain ⟨m, rfl⟩ : ∃ m, many = m + 1 := ⟨many - 1, by omega⟩
    have hE := HE2.out
    simp only [] at hE
    have qm : (((m + 1 : Nat) : Int) == 0) = false := by simp; omega
    have qm' : (((m : Nat) : Int) + 1 == 0) = false := by simp; omega
    have hw2 : IntKind.u64.wrap ((m : Nat) : Int) = (m : Nat) := by simp only [IntKind.wrap_u64]; omega
    have hg := rvar_lt62 b (at6, 0)
    obtain ⟨q9, hq9⟩ : ∃ q, rvar b (at6, 0) = q := ⟨_, rfl⟩
    rw [hq9] at hE hg
    obtain ⟨⟨at9, er9⟩, gap⟩ := q9
    simp only [] at hE hg
    have HE3 := Lib.hid hE
    have E9 := Lib.hid hq9
    clear hE hq9 HE2 hm0
    go_wp2_with fail
    obtain ⟨w8, hw8⟩ : ∃ w8, w7.setCell ⟨Bf, 3, none⟩ (.slice a7 acc2.length x7) = w8 := ⟨_, rfl⟩
    have h8 := H8.out
    rw [hw8] at h8 ⊢
    have H8b := Lib.hid h8
    clear h8 hw8 H8 c3' ff'
    have hn9 := fnum_any b w0 vb B w8 (at6, 0) H8b.out.rs
    rw [E9.out] at hn9
    refine hn9.mono ?_
    rintro e w9 ⟨rfl, m9, r9⟩
    have h9 := H8b.out.step m9 r9
    have c2 : w9.cell? ⟨B, 2, none⟩ = some (.int .i64 er9) := row?_cell h9.rs.row 2
    have H9 := Lib.hid h9
    clear h9 m9 r9 hn9 H8b qm qm' hw2
    simp only []
    by_cases z9 : er9 = 0
    case neg =>
      have q9 : (er9 == 0) = false := by simpa using z9
      have q9' : (er9 != 0) = true := by simpa using z9
      have hE := HE3.out
      rw [decide_eq_false z9, Bool.false_and, rfail_ok, if_pos (by simpa using z9)] at hE
      have HE4 := Lib.hid hE
      clear hE HE3 z9
      go_wp2_with fail
      refine (ffail_any b w0 vb B w9 (at9, er9) false 5 H9.out.rs).mono ?_
      rw [rfail_ok]
      rintro e w10 ⟨rfl, m10, r10⟩
      have H10 := Lib.hid (H9.out.step m10 r10)
      clear m10 r10 H9 c2
      go_wp2_with fail
      simp only [Exit.jump]
      refine bodyPost_ret (results_none rfl _ _ _) rfl ⟨rfl, ?_⟩
      have e := HE4.out
      obtain rfl : (at9, er9) = sF := congrArg Prod.fst e
      obtain rfl : acc2 = rF := congrArg Prod.snd e
      exact H10.out.fs
    subst z9
    by_cases g1 : lo < 2
    case pos =>
      have p1 : decide ((lo : Int) < 2) = true := decide_eq_true (by omega)
      have hE := HE3.out
      rw [decide_eq_true (p := (0 : Int) = 0) rfl, decide_eq_true g1, Bool.true_or, Bool.and_true, rfail_yes, if_pos (by simp)] at hE
      have HE4 := Lib.hid hE
      clear hE HE3 g1
      go_wp2_with fail
      refine (ffail_any b w0 vb B w9 (at9, 0) true 5 H9.out.rs).mono ?_
      rw [rfail_yes]
      rintro e w10 ⟨rfl, m10, r10⟩
      have H10 := Lib.hid (H9.out.step m10 r10)
      clear m10 r10 H9 c2 p1
      go_wp2_with fail
      simp only [Exit.jump]
      refine bodyPost_ret (results_none rfl _ _ _) rfl ⟨rfl, ?_⟩
      have e := HE4.out
      obtain rfl : (at9, 5) = sF := congrArg Prod.fst e
      obtain rfl : acc2 = rF := congrArg Prod.snd e
      exact H10.out.fs
    have p1 : decide ((lo : Int) < 2) = false := decide_eq_false (by omega)
    have hw3 : IntKind.u64.wrap ((lo : Int) - 2) = ((lo - 2 : Nat) : Int) := by simp only [IntKind.wrap_u64]; omega
    by_cases g2 : lo - 2 < gap
    case pos =>
      have p2 : decide (lo - 2 < gap) = true := decide_eq_true g2
      have hE := HE3.out
      rw [decide_eq_true (p := (0 : Int) = 0) rfl, decide_eq_true g2, Bool.or_true, Bool.and_true, rfail_yes, if_pos (by simp)] at hE
      have HE4 := Lib.hid hE
      clear hE HE3 g1 g2
      go_wp2_with fail
      refine (ffail_any b w0 vb B w9 (at9, 0) true 5 H9.out.rs).mono ?_
      rw [rfail_yes]
      rintro e w10 ⟨rfl, m10, r10⟩
      have H10 := Lib.hid (H9.out.step m10 r10)
      clear m10 r10 H9 c2 p1 p2 hw3
      go_wp2_with fail
      simp only [Exit.jump]
      refine bodyPost_ret (results_none rfl _ _ _) rfl ⟨rfl, ?_⟩
      have e := HE4.out
      obtain rfl : (at9, 5) = sF := congrArg Prod.fst e
      obtain rfl : acc2 = rF := congrArg Prod.snd e
      exact H10.out.fs
    have p2 : decide (lo - 2 < gap) = false := decide_eq_false g2
    have hw4 : IntKind.u64.wrap (((lo - 2 : Nat) : Int) - (gap : Int)) = ((lo - 2 - gap : Nat) : Int) := by simp only [IntKind.wrap_u64]; omega
    have hE := HE3.out
    rw [decide_eq_true (p := (0 : Int) = 0) rfl, decide_eq_false g1, decide_eq_false g2, Bool.or_false, Bool.and_false, rfail_ok, if_neg (by simp)] at hE
    have HE4 := Lib.hid hE
    have HG := Lib.hid (And.intro g1 g2)
    clear hE HE3 g1 g2
    go_wp2_with fail
    refine (ffail_any b w0 vb B w9 (at9, 0) false 5 H9.out.rs).mono ?_
    rw [rfail_ok]
    rintro e w10 ⟨rfl, m10, r10⟩
    have H10 := Lib.hid (H9.out.step m10 r10)
    clear m10 r10 H9 c2 p1 p2
    simp only []
    go_wp2_with fail
    refine wp_goto ?_
    show 0 = 0 ∧ J _ _
    exact ⟨rfl, J_of3 HJ.out (m, lo - 2 - gap) (by kernel_rfl) ⟨(at9, 0), acc2, H10.out, HE4.out, by show lo - 2 - gap < _; omega, by show m < _; omega, fun _ => by show m + acc2.length ≤ 7; have := KA.out; omega⟩⟩
  case pass =>
    intro a W hj
    obtain ⟨⟨many, hi⟩, z, rfl, s', acc, hF, hE0, hhi, hmn, hac⟩ := (HJ.out _ _).1 hj
    simp only [] at hF hE0 hhi hmn hac ⊢
    have H := Lib.hid hF
    have E := Lib.hid hE0
    have HA := Lib.hid hac
    clear hj hF hE0 hac HN1 E2 E3 E4 EF HM H0
    have hn := rvar_lt62 b s'
    obtain ⟨q5, hq5⟩ : ∃ q, rvar b s' = q := ⟨_, rfl⟩
    have hE := E.out
    rw [rgo_eq] at hE
    have hn5 := fnum_any b w0 vb B W s' H.out.rs
    rw [hq5] at hn hE hn5
    have E5 := Lib.hid hq5
    obtain ⟨s5, n⟩ := q5
    simp only [] at hn hE hn5
    obtain ⟨s6, hs6⟩ : ∃ s6, rfail (decide (hi < n)) 5 s5 = s6 := ⟨_, rfl⟩
    rw [hs6] at hE
    have HE := Lib.hid hE
    have E6 := Lib.hid hs6
    have HN5 := Lib.hid hn5
    clear hE hs6 hq5 E hn5
    go_wp2_with fail
    refine HN5.out.mono ?_
    rintro e w5 ⟨rfl, m5, r5⟩
    have H5 := Lib.hid (H.out.step m5 r5)
    clear m5 r5 H HN5
    go_wp2_with fail
    refine (ffail_any b w0 vb B w5 s5 (decide (hi < n)) 5 H5.out.rs).mono ?_
    rw [E6.out]
    rintro e w6 ⟨rfl, m6, r6⟩
    have H6 := Lib.hid (H5.out.step m6 r6)
    clear m6 r6 H5
    obtain ⟨at6, er6⟩ := s6
    by_cases z6 : er6 = 0
    case neg =>
      have q6 : (er6 != 0) = true := by simpa using z6
      have hE := HE.out
      rw [if_pos (by simpa using z6)] at hE
      have HE' := Lib.hid hE
      clear hE HE z6
      go_wp2_with fail
      simp only [Exit.jump]
      refine bodyPost_ret (results_none rfl _ _ _) rfl ⟨rfl, ?_⟩
      have e := HE'.out
      obtain rfl : (at6, er6) = sF := congrArg Prod.fst e
      obtain rfl : acc = rF := congrArg Prod.snd e
      exact H6.out.fs
    subst z6
    have hle : n ≤ hi := by have := (rfail_no (by decide) (show (rfail (decide (hi < n)) 5 s5).2 = 0 by rw [E6.out])).1; simp at this; omega
    have hz5 : s5.2 = 0 := (rfail_no (by decide) (show (rfail (decide (hi < n)) 5 s5).2 = 0 by rw [E6.out])).2
    have hacc : many + acc.length ≤ 7 := HA.out (by
      by_cases h0 : s'.2 = 0
      · exact h0
      · exfalso
        have e5 := rvar_bad (b := b) h0
        rw [E5.out] at e5
        have : s5 = s' := congrArg Prod.fst e5
        exact h0 (by rw [← this]; exact hz5))
    have hw1 : IntKind.u64.wrap ((hi : Int) - (n : Int)) = ((hi - n : Nat) : Int) := by simp only [IntKind.wrap_u64]; omega
    have hE := HE.out
    rw [if_neg (by simp)] at hE
    obtain ⟨lo, hlo⟩ : ∃ lo, hi - n = lo := ⟨_, rfl⟩
    rw [hlo] at hE hw1
    obtain ⟨acc2, hacc2⟩ : ∃ acc2, acc ++ [(lo, hi)] = acc2 := ⟨_, rfl⟩
    have kacc2 : acc2.length = acc.length + 1 := by rw [← hacc2]; simp
    rw [hacc2] at hE
    have HE2 := Lib.hid hE
    have HLO := Lib.hid hlo
    have hlol : lo ≤ hi := by omega
    have KA := Lib.hid kacc2
    obtain ⟨ur, fa6⟩ := H6.out.fa
    obtain ⟨ar, er, rfl, -, -, -⟩ := id (Own.sr fa6.rs)
    have c3 : w6.cell? ⟨Bf, 3, none⟩ = some (.slice ar acc.length er) := row?_cell fa6.row 3
    have ff := row?_frozen fa6.row
    have FA6 := Lib.hid fa6
    clear hE fa6 hlo HE kacc2 hz5
    go_wp2_with (at_builtin; refine wpList_append_own _ rfl _ _ 26 rfl N 58 i0 (.agg #[.int .u64 0, .int .u64 0]) 2 16 Try.underlying26 hi0 hz0 hz1 hz2 rfl (by decide) _ acc.length _ rfl (FA6.out.rs.alloc _) ⟨_, 0, none⟩ 1 1 [.int .u64 (lo : Nat), .int .u64 (hi : Nat)] rfl rfl ?c1X ?c2X ?c3X ?c4X ?c5X ?_)
    case c1X =>
      intro j u hj
      rw [Addr.add_lit, row?_cell (row?_alloc_at _ _ _ _ rfl)]
      match j, hj with
      | 0, hj => simp at hj; subst hj; rfl
      | 1, hj => simp at hj; subst hj; rfl
    case c2X =>
      intro u hu
      simp only [List.mem_cons, List.not_mem_nil, or_false] at hu
      rcases hu with rfl | rfl <;> rfl
    case c3X => unfold maxLen; omega
    case c4X => omega
    case c5X => have := H6.out.hN; simp; omega
    intro v7 w7 o7 g7 _
    have o7' : w7.ownsRow N 58 2 v7 acc2.length (rcells acc2) := by rw [← hacc2, List.length_append, rcells_app]; exact o7
    have hbA := (Below.refl w6.heap.size w6).alloc (Nat.le_refl _) (.cells #[.int .u64 (lo : Nat), .int .u64 (hi : Nat)] 58)
    have h7 := H6.out.quiet hbA
    have fa7 := FA6.out.mut (Mut.of_below (B := B) hbA) H6.out.ne H6.out.hB
    have rF7 := row_grown g7 fa7.row (fun e => by have := (fa7.rs.lt Bf e.symm).1; have := H6.out.hBf; omega)
    have c3' : w7.cell? ⟨Bf, 3, none⟩ = some (.slice ar acc.length er) := row?_cell rF7 3
    have ff' := row?_frozen rF7
    have h8 := h7.app fa7 g7 o7'
    obtain ⟨a7, x7, rfl, -, -, -⟩ := id (Own.sr o7')
    have H8 := Lib.hid h8
    clear o7 o7' g7 hbA h7 fa7 rF7 h8 c3 ff FA6 H6 hacc2 hw1
    by_cases hm0 : many = 0
    case pos =>
      subst hm0
      have HE3 := Lib.hid (show ((at6, (0 : Int)), acc2) = (sF, rF) from HE2.out)
      clear HE2
      go_wp2_with fail
      simp only [Exit.jump]
      refine bodyPost_ret (results_none rfl _ _ _) rfl ⟨rfl, ?_⟩
      have e := HE3.out
      obtain rfl : (at6, 0) = sF := congrArg Prod.fst e
      obtain rfl : acc2 = rF := congrArg Prod.snd e
      exact H8.out.fs
    obtain ⟨m, rfl⟩ : ∃ m, many = m + 1 := ⟨many - 1, by omega⟩
    have hE := HE2.out
    simp only [] at hE
    have qm : (((m + 1 : Nat) : Int) == 0) = false := by simp; omega
    have qm' : (((m : Nat) : Int) + 1 == 0) = false := by simp; omega
    have hw2 : IntKind.u64.wrap ((m : Nat) : Int) = (m : Nat) := by simp only [IntKind.wrap_u64]; omega
    have hg := rvar_lt62 b (at6, 0)
    obtain ⟨q9, hq9⟩ : ∃ q, rvar b (at6, 0) = q := ⟨_, rfl⟩
    rw [hq9] at hE hg
    obtain ⟨⟨at9, er9⟩, gap⟩ := q9
    simp only [] at hE hg
    have HE3 := Lib.hid hE
    have E9 := Lib.hid hq9
    clear hE hq9 HE2 hm0
    go_wp2_with fail
    obtain ⟨w8, hw8⟩ : ∃ w8, w7.setCell ⟨Bf, 3, none⟩ (.slice a7 acc2.length x7) = w8 := ⟨_, rfl⟩
    have h8 := H8.out
    rw [hw8] at h8 ⊢
    have H8b := Lib.hid h8
    clear h8 hw8 H8 c3' ff'
    have hn9 := fnum_any b w0 vb B w8 (at6, 0) H8b.out.rs
    rw [E9.out] at hn9
    refine hn9.mono ?_
    rintro e w9 ⟨rfl, m9, r9⟩
    have h9 := H8b.out.step m9 r9
    have c2 : w9.cell? ⟨B, 2, none⟩ = some (.int .i64 er9) := row?_cell h9.rs.row 2
    have H9 := Lib.hid h9
    clear h9 m9 r9 hn9 H8b qm qm' hw2
    simp only []
    by_cases z9 : er9 = 0
    case neg =>
      have q9 : (er9 == 0) = false := by simpa using z9
      have q9' : (er9 != 0) = true := by simpa using z9
      have hE := HE3.out
      rw [decide_eq_false z9, Bool.false_and, rfail_ok, if_pos (by simpa using z9)] at hE
      have HE4 := Lib.hid hE
      clear hE HE3 z9
      go_wp2_with fail
      refine (ffail_any b w0 vb B w9 (at9, er9) false 5 H9.out.rs).mono ?_
      rw [rfail_ok]
      rintro e w10 ⟨rfl, m10, r10⟩
      have H10 := Lib.hid (H9.out.step m10 r10)
      clear m10 r10 H9 c2
      go_wp2_with fail
      simp only [Exit.jump]
      refine bodyPost_ret (results_none rfl _ _ _) rfl ⟨rfl, ?_⟩
      have e := HE4.out
      obtain rfl : (at9, er9) = sF := congrArg Prod.fst e
      obtain rfl : acc2 = rF := congrArg Prod.snd e
      exact H10.out.fs
    subst z9
    by_cases g1 : lo < 2
    case pos =>
      have p1 : decide ((lo : Int) < 2) = true := decide_eq_true (by omega)
      have hE := HE3.out
      rw [decide_eq_true (p := (0 : Int) = 0) rfl, decide_eq_true g1, Bool.true_or, Bool.and_true, rfail_yes, if_pos (by simp)] at hE
      have HE4 := Lib.hid hE
      clear hE HE3 g1
      go_wp2_with fail
      refine (ffail_any b w0 vb B w9 (at9, 0) true 5 H9.out.rs).mono ?_
      rw [rfail_yes]
      rintro e w10 ⟨rfl, m10, r10⟩
      have H10 := Lib.hid (H9.out.step m10 r10)
      clear m10 r10 H9 c2 p1
      go_wp2_with fail
      simp only [Exit.jump]
      refine bodyPost_ret (results_none rfl _ _ _) rfl ⟨rfl, ?_⟩
      have e := HE4.out
      obtain rfl : (at9, 5) = sF := congrArg Prod.fst e
      obtain rfl : acc2 = rF := congrArg Prod.snd e
      exact H10.out.fs
    have p1 : decide ((lo : Int) < 2) = false := decide_eq_false (by omega)
    have hw3 : IntKind.u64.wrap ((lo : Int) - 2) = ((lo - 2 : Nat) : Int) := by simp only [IntKind.wrap_u64]; omega
    by_cases g2 : lo - 2 < gap
    case pos =>
      have p2 : decide (lo - 2 < gap) = true := decide_eq_true g2
      have hE := HE3.out
      rw [decide_eq_true (p := (0 : Int) = 0) rfl, decide_eq_true g2, Bool.or_true, Bool.and_true, rfail_yes, if_pos (by simp)] at hE
      have HE4 := Lib.hid hE
      clear hE HE3 g1 g2
      go_wp2_with fail
      refine (ffail_any b w0 vb B w9 (at9, 0) true 5 H9.out.rs).mono ?_
      rw [rfail_yes]
      rintro e w10 ⟨rfl, m10, r10⟩
      have H10 := Lib.hid (H9.out.step m10 r10)
      clear m10 r10 H9 c2 p1 p2 hw3
      go_wp2_with fail
      simp only [Exit.jump]
      refine bodyPost_ret (results_none rfl _ _ _) rfl ⟨rfl, ?_⟩
      have e := HE4.out
      obtain rfl : (at9, 5) = sF := congrArg Prod.fst e
      obtain rfl : acc2 = rF := congrArg Prod.snd e
      exact H10.out.fs
    have p2 : decide (lo - 2 < gap) = false := decide_eq_false g2
    have hw4 : IntKind.u64.wrap (((lo - 2 : Nat) : Int) - (gap : Int)) = ((lo - 2 - gap : Nat) : Int) := by simp only [IntKind.wrap_u64]; omega
    have hE := HE3.out
    rw [decide_eq_true (p := (0 : Int) = 0) rfl, decide_eq_false g1, decide_eq_false g2, Bool.or_false, Bool.and_false, rfail_ok, if_neg (by simp)] at hE
    have HE4 := Lib.hid hE
    have HG := Lib.hid (And.intro g1 g2)
    clear hE HE3 g1 g2
    go_wp2_with fail
    refine (ffail_any b w0 vb B w9 (at9, 0) false 5 H9.out.rs).mono ?_
    rw [rfail_ok]
    rintro e w10 ⟨rfl, m10, r10⟩
    have H10 := Lib.hid (H9.out.step m10 r10)
    clear m10 r10 H9 c2 p1 p2
    simp only []
    go_wp2_with fail
    refine wp_goto ?_
    show 0 = 0 ∧ (J _ _ ∧ _)
    exact ⟨rfl, J_of3 HJ.out (m, lo - 2 - gap) (by kernel_rfl) ⟨(at9, 0), acc2, H10.out, HE4.out, by show lo - 2 - gap < _; omega, by show m < _; omega, fun _ => by show m + acc2.length ≤ 7; have := KA.out; omega⟩, by simp [intOf]⟩
end Go.Proofs.Ytipniobgijdlkaa
