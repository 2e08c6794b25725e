/- The walk of the document's Get. -/
import Derived.Test.YtgaheodnembjiaaHdrR1
import Derived.Test.YtgaheodnembjiaaHdrR2
namespace Hdr
open Go.Rw
theorem lPart_err {b : List UInt8} {at_ : Nat} {eight : Bool} {x : Int} (h : lPart b at_ eight = .error x) : x ≠ 0 := by
  unfold lPart at h
  split at h
  · injection h with h; omega
  split at h
  · injection h with h; omega
  split at h
  · injection h with h; omega
  · cases h
theorem lTok_err {b : List UInt8} {k at2 : Nat} {x : Int} (h : lTok b k at2 = .error x) : x ≠ 0 := by
  unfold lTok at h
  split at h
  · cases h
  split at h
  · injection h with h; rw [← h]; assumption
  split at h
  · injection h with h; omega
  split at h
  · injection h with h; omega
  · cases h
theorem lead_err {b : List UInt8} {m : Bool} {x : Int} (e : lead b m = .error x) : x ≠ 0 := by
  unfold lead at e
  split at e
  · injection e with e; omega
  split at e
  · injection e with e; omega
  split at e
  · split at e
    · injection e with e; omega
    split at e
    · injection e with e; omega
    · cases e
  split at e
  · injection e with e; omega
  split at e
  · injection e with e; omega
  split at e
  · injection e with e; rename_i h; rw [← e]; exact lPart_err h
  split at e
  · injection e with e; rename_i h; rw [← e]; exact lPart_err h
  split at e
  · injection e with e; rename_i h; rw [← e]; exact lTok_err h
  unfold lTail at e
  split at e
  · injection e with e; rw [← e]; assumption
  · cases e
end Hdr
namespace Go.Proofs.Ytgaheodnembjiaa
open Go.RowKit Go.Rw Hdr
attribute [local go_sem ↓] hvA_0 hvA_1 hvA_2 hvA_3 hvA_4 hvA_5 hvA_6 hvA_7 hvA_8 hvA_9
attribute [local go_sem ↓] ldH stH alH bdR bdH shift_shl8 shift_shr8
attribute [local go_sem] rldH rstH ralH setRow_alloc_at setRow_alloc_past setRow_drew buildR buildH buildH0
/-- What the document's Get answers. -/
def RGetPost (w : World) (q : Hd × Nat × Nat × Int) (e : Ending) (w' : World) : Prop :=
  ∃ vd vs vt, e = .returned (.tuple #[.agg (hvA q.1.long q.1.kind q.1.ver vd vs vt q.1.spin q.1.phase q.1.num q.1.nl), .int .i64 (q.2.1 : Nat), .int .i64 (q.2.2.1 : Nat), .int .i64 q.2.2.2]) ∧ Sl w' vd q.1.dst ∧ Sl w' vs q.1.src ∧ Sl w' vt q.1.tok ∧ Below w.heap.size w w'

set_option maxRecDepth 20000 in
set_option maxHeartbeats 4000000 in
theorem rrget_any (b : List UInt8) (hb : b.length ≤ 1000000) (vb : Value) (w : World) (hsb : Sl w vb b) :
    Calls Try.prog 13 #[vb] w (RGetPost w (rget b)) := by
  obtain ⟨q, hq⟩ : ∃ q, rget b = q := ⟨_, rfl⟩
  rw [hq]
  unfold rget at hq
  obtain ⟨ao, cap, rfl, hc, -, -⟩ := id hsb
  have hl := fun W hs => rlead_any b hb (.slice ao b.length cap) W hs
  have herr := fun x (h : lead b false = .error x) => lead_err h
  have hokk := fun h a t (e : lead b false = .ok (h, a, t)) => lead_ok e
  generalize lead b false = p at hl hq herr hokk
  have HSB := Lib.hid hsb
  have HBL := Lib.hid hb
  have HL := Lib.hid hl
  have HCC := Lib.hid hc
  have HQ0 := Lib.hid hq
  have HW1 := Lib.hid (show Below w.heap.size w (w.alloc (.cells (hvA false 0 0 (.slice none 0 0) (.slice none 0 0) (.slice none 0 0) false false 0 0) 26)) from (Below.refl _ _).alloc (Nat.le_refl _) _)
  have HR2 := Lib.hid (show row? (w.alloc (.cells (hvA false 0 0 (.slice none 0 0) (.slice none 0 0) (.slice none 0 0) false false 0 0) 26)) w.heap.size = some (hvA false 0 0 (.slice none 0 0) (.slice none 0 0) (.slice none 0 0) false false 0 0) from row?_alloc_at _ _ _ _ rfl)
  clear hsb hb hl hc hq
  go_enter Try.func13, Try.ntmps13
  go_wp2_with fail
  refine (HL.out _ (HSB.out.below HW1.out)).mono ?_
  intro e w1 hpost
  clear HL
  cases p with
  | error x =>
    obtain ⟨lg, kind, ver, a1, n1, c1, a2, n2, c2, a3, n3, c3, sp, ph, num, nl, rfl, b1⟩ := hpost
    have hx : x ≠ 0 := herr x rfl
    have HQ := HQ0
    have r2 := Rg.stable_row b1 HR2.out
    have bb := HW1.out.trans (b1.mono HW1.out.size)
    have zz := row?_lt r2
    have rA : row? (w1.alloc (.cells (hvA lg kind ver (.slice a1 n1 c1) (.slice a2 n2 c2) (.slice a3 n3 c3) sp ph num nl) 26)) w.heap.size = some (hvA false 0 0 (.slice none 0 0) (.slice none 0 0) (.slice none 0 0) false false 0 0) := by rw [row?_alloc_past _ _ _ zz]; exact r2
    have bA : Below w.heap.size w (w1.alloc (.cells (hvA lg kind ver (.slice a1 n1 c1) (.slice a2 n2 c2) (.slice a3 n3 c3) sp ph num nl) 26)) := bb.alloc bb.size _
    have RA := Lib.hid rA
    have BA := Lib.hid bA
    have HB1 := Lib.hid bb
    clear b1 r2 bb HR2 HW1 bA HQ0 herr hokk
    go_wp2_with fail
    refine bodyPost_ret (results_row4 AgH rfl _ _ w.heap.size (hvA false 0 0 (.slice none 0 0) (.slice none 0 0) (.slice none 0 0) false false 0 0) rfl ?_ (hvA_size ..)) rfl ?_
    · rw [row?_alloc_past _ _ _ (by simpa using zz)]; exact row?_setRow_eq (by have := RA.out; rwa [row?_alloc_past _ _ _ zz] at this)
    · rw [← HQ.out]
      exact ⟨.slice none 0 0, .slice none 0 0, .slice none 0 0, rfl, Sl.nil _, Sl.nil _, Sl.nil _, (HB1.out.trans (((Mut.refl w.heap.size w1).setRow (hvA false 0 0 (.slice none 0 0) (.slice none 0 0) (.slice none 0 0) false false 0 0)).below (Nat.le_refl _) HB1.out.size)).alloc (by have := HB1.out.size; simpa using this) _⟩
  | ok v =>
    obtain ⟨h, at_, told⟩ := v
    obtain ⟨vd, vs, vt, rfl, od, os, ot, b1⟩ := hpost
    obtain ⟨⟨nl, hnl, hn1, hn4⟩, hat, htold, hshort⟩ := hokk h at_ told rfl
    obtain ⟨lg, kind, ver, dst, src, tok, sp, ph, num0, nlI⟩ := h
    dsimp only at od os ot hnl hshort HQ0 ⊢
    subst hnl
    have hq := HQ0.out
    simp only [Int.toNat_natCast] at hq
    obtain ⟨xd, yd, rfl, -, -, -⟩ := id (Own.sl od)
    obtain ⟨xs, ys, rfl, -, -, -⟩ := id (Own.sl os)
    obtain ⟨xt, yt, rfl, -, -, -⟩ := id (Own.sl ot)
    have r2 := Rg.stable_row b1 HR2.out
    have bb := HW1.out.trans (b1.mono HW1.out.size)
    have zz := row?_lt r2
    have zs : w.heap.size + 1 ≤ w1.heap.size := by omega
    rw [World.size_alloc] at od os ot
    have rA : row? (w1.alloc (.cells (hvA lg kind ver (.slice xd dst.length yd) (.slice xs src.length ys) (.slice xt tok.length yt) sp ph num0 nl) 26)) w.heap.size = some (hvA false 0 0 (.slice none 0 0) (.slice none 0 0) (.slice none 0 0) false false 0 0) := by rw [row?_alloc_past _ _ _ zz]; exact r2
    have r6 : row? (w1.alloc (.cells (hvA lg kind ver (.slice xd dst.length yd) (.slice xs src.length ys) (.slice xt tok.length yt) sp ph num0 nl) 26)) w1.heap.size = some (hvA lg kind ver (.slice xd dst.length yd) (.slice xs src.length ys) (.slice xt tok.length yt) sp ph num0 nl) := row?_alloc_at _ _ _ _ rfl
    have bA : Below w.heap.size w (w1.alloc (.cells (hvA lg kind ver (.slice xd dst.length yd) (.slice xs src.length ys) (.slice xt tok.length yt) sp ph num0 nl) 26)) := bb.alloc bb.size _
    have bw1 : Below w1.heap.size w1 (w1.alloc (.cells (hvA lg kind ver (.slice xd dst.length yd) (.slice xs src.length ys) (.slice xt tok.length yt) sp ph num0 nl) 26)) := (Below.refl _ _).alloc (Nat.le_refl _) _
    have zA : (w1.alloc (.cells (hvA lg kind ver (.slice xd dst.length yd) (.slice xs src.length ys) (.slice xt tok.length yt) sp ph num0 nl) 26)).heap.size = w1.heap.size + 1 := by simp
    have OD := Lib.hid od
    have OS := Lib.hid os
    have OT := Lib.hid ot
    have R2 := Lib.hid rA
    have R6 := Lib.hid r6
    have BB := Lib.hid bA
    have BW1 := Lib.hid bw1
    have HAT := Lib.hid hat
    have HTO := Lib.hid htold
    have HSH := Lib.hid hshort
    have HQ1 := Lib.hid hq
    clear b1 r2 bb HR2 HW1 bA rA r6 bw1 HQ0 herr hokk od os ot hat htold hshort hq
    go_wp2_with (with_reducible refine Rw.hold_ops 18 ?_)
    refine Rw.Held.mk ?_
    generalize (w1.alloc (.cells (hvA lg kind ver (.slice xd dst.length yd) (.slice xs src.length ys) (.slice xt tok.length yt) sp ph num0 nl) 26)) = WA at R2 R6 BB BW1 zA ⊢
    obtain ⟨Bh, hBh⟩ : ∃ Bh, w1.heap.size = Bh := ⟨_, rfl⟩
    rw [hBh] at R6 ⊢
    have c0 : WA.cell? ⟨Bh, 0, none⟩ = some (.bool lg) := row?_cell R6.out 0
    have hq := HQ1.out
    clear HQ1
    cases lg
    · rw [if_neg (by simp)] at hq
      have HNT := Lib.hid (show at_ + nl ≤ b.length → nl ≤ told from fun h => by have := HSH.out rfl; omega)
      clear HSH
      have c9 : WA.cell? ⟨Bh, 9, none⟩ = some (.int .i64 (nl : Nat)) := row?_cell R6.out 9
      have hwA : wrap64 ((at_ : Int) + nl) = (at_ : Int) + nl := by have := HBL.out; have := HAT.out; unfold wrap64; omega
      by_cases ha : b.length < at_ + nl
      · have hai : ((b.length : Nat) : Int) < (at_ : Int) + nl := by omega
        rw [if_pos ha] at hq
        have HQ := Lib.hid hq
        clear hq ha
        have r2 := R2.out
        go_wp2_with fail
        refine bodyPost_ret (results_row4 AgH rfl _ _ w.heap.size (hvA false 0 0 (.slice none 0 0) (.slice none 0 0) (.slice none 0 0) false false 0 0) rfl ?_ (hvA_size ..)) rfl ?_
        · exact row?_setRow_eq R2.out
        · rw [← HQ.out]
          exact ⟨.slice none 0 0, .slice none 0 0, .slice none 0 0, rfl, Sl.nil _, Sl.nil _, Sl.nil _, BB.out.trans (((Mut.refl w.heap.size WA).setRow (hvA false 0 0 (.slice none 0 0) (.slice none 0 0) (.slice none 0 0) false false 0 0)).below (Nat.le_refl _) BB.out.size)⟩
      · have hai : ¬ ((b.length : Nat) : Int) < (at_ : Int) + nl := by omega
        rw [if_neg ha] at hq
        obtain ⟨T, hT⟩ : ∃ T, (b.drop at_).take nl = T := ⟨_, rfl⟩
        have hTl : T.length = nl := by rw [← hT]; simp; omega
        have hsc := HSB.out.cut at_ (at_ + nl) (by omega) (by omega)
        have et : (b.take (at_ + nl)).drop at_ = (b.drop at_).take nl := by rw [List.drop_take, Nat.add_sub_cancel_left]
        rw [et, hT, Nat.add_sub_cancel_left] at hsc
        have hcut : ∀ W, (Instr.sliceAt 23 (.slice ao b.length cap) (some (.int .i64 (at_ : Nat))) (some (.int .i64 ((at_ : Int) + nl))) none).run Try.prog W = .ok (.slice (cutA ao at_ cap) nl (cap - at_)) W := fun W => by
          rw [show ((at_ : Int) + nl) = ((at_ + nl : Nat) : Int) from rfl, cut_lh TB W _ _ _ _ _ _ _ (by omega) (by omega) (by have := HCC.out; omega), Int.toNat_natCast, Int.toNat_natCast, Nat.add_sub_cancel_left]
        have hnu := rnumb_any T (by omega) (.slice (cutA ao at_ cap) nl (cap - at_)) WA (hsc.below BB.out)
        rw [hT] at hq
        have HQ1 := Lib.hid hq
        have HNU := Lib.hid hnu
        have HA := Lib.hid ha
        have c88 := row?_cell R6.out 8
        have f88 := row?_frozen R6.out 8
        clear hq ha hT hTl hsc et hnu
        go_wp2_with fail
        refine HNU.out.mono ?_
        rintro e w' ⟨rfl, rfl⟩
        clear HNU hcut
        go_wp2_with (with_reducible refine Rw.hold_ops 48 ?_)
        refine Rw.Held.mk ?_
        clear c88 f88 c9 hai
        have mx : Mut Bh WA (WA.setCell ⟨Bh, 8, none⟩ (.int .u64 (Hdr.num T : Nat))) := (Mut.refl _ _).setCell _ _ _
        have x6 : row? (WA.setCell ⟨Bh, 8, none⟩ (.int .u64 (Hdr.num T : Nat))) Bh = some (hvA false kind ver (.slice xd dst.length yd) (.slice xs src.length ys) (.slice xt tok.length yt) sp ph (Hdr.num T) nl) := by rw [row?_setCell_eq R6.out]; rfl
        generalize (WA.setCell ⟨Bh, 8, none⟩ (.int .u64 (Hdr.num T : Nat))) = WB at mx x6 ⊢
        have x2 := mx.row R2.out (by omega)
        have xb := BB.out.trans (mx.below (by omega) BB.out.size)
        have xd_ := mx.below (N := w1.heap.size) (by omega) (by omega)
        have od := own_below (BW1.out.trans xd_) OD.out
        have os := own_below (BW1.out.trans xd_) OS.out
        have ot := own_below (BW1.out.trans xd_) OT.out
        have zb := mx.size
        clear R6 R2 BB mx OD OS OT xd_ BW1
        have R6 := Lib.hid x6
        have R2 := Lib.hid x2
        have BB := Lib.hid xb
        have OD := Lib.hid od
        have OS := Lib.hid os
        have OT := Lib.hid ot
        clear x6 x2 xb od os ot
        have c9 : WB.cell? ⟨Bh, 9, none⟩ = some (.int .i64 (nl : Nat)) := row?_cell R6.out 9
        have hnt : nl ≤ told := HNT.out (by have := HA.out; omega)
        have HWA := Lib.hid hwA
        clear hwA
        have hwB : wrap64 ((told : Int) - nl) = (told : Int) - nl := by have := HBL.out; have := HTO.out; unfold wrap64; omega
        have HWB := Lib.hid hwB
        clear hwB
        have hwC : wrap64 ((at_ : Int) + told) = (at_ : Int) + told := by have := HBL.out; have := HAT.out; have := HTO.out; unfold wrap64; omega
        have HWC := Lib.hid hwC
        clear hwC
        have hq := HQ1.out
        clear HQ1
        by_cases hb2 : b.length < at_ + told
        · have hbi : ((b.length : Nat) : Int) < (at_ : Int) + told := by omega
          rw [if_pos hb2] at hq
          have HQ := Lib.hid hq
          have hwB := HWB.out
          have hwC := HWC.out
          clear hq hb2
          have r2 := R2.out
          go_wp2_with fail
          refine bodyPost_ret (results_row4 AgH rfl _ _ w.heap.size (hvA false 0 0 (.slice none 0 0) (.slice none 0 0) (.slice none 0 0) false false 0 0) rfl ?_ (hvA_size ..)) rfl ?_
          · exact row?_setRow_eq R2.out
          · rw [← HQ.out]
            exact ⟨.slice none 0 0, .slice none 0 0, .slice none 0 0, rfl, Sl.nil _, Sl.nil _, Sl.nil _, BB.out.trans (((Mut.refl w.heap.size WB).setRow (hvA false 0 0 (.slice none 0 0) (.slice none 0 0) (.slice none 0 0) false false 0 0)).below (Nat.le_refl _) BB.out.size)⟩
        · have hbi : ¬ ((b.length : Nat) : Int) < (at_ : Int) + told := by omega
          rw [if_neg hb2] at hq
          have HQ := Lib.hid hq
          clear hq hb2
          have r6 := R6.out
          have r2 := R2.out
          have c9s : (WB.setRow w.heap.size (hvA false kind ver (.slice xd dst.length yd) (.slice xs src.length ys) (.slice xt tok.length yt) sp ph (Hdr.num T) nl)).cell? ⟨Bh, 9, none⟩ = some (.int .i64 (nl : Nat)) := row?_cell (show row? (WB.setRow w.heap.size (hvA false kind ver (.slice xd dst.length yd) (.slice xs src.length ys) (.slice xt tok.length yt) sp ph (Hdr.num T) nl)) Bh = some (hvA false kind ver (.slice xd dst.length yd) (.slice xs src.length ys) (.slice xt tok.length yt) sp ph (Hdr.num T) nl) from by rw [row?_setRow_ne _ _ _ _ (by omega)]; exact R6.out) 9
          have hwA := HWA.out
          have hwB := HWB.out
          have hwC := HWC.out
          go_wp2_with fail
          go_region
          all_goals (go_wp2_with fail)
          clear hwA hwB hwC c9s
          refine bodyPost_ret (results_row4 AgH rfl _ _ w.heap.size (hvA false kind ver (.slice xd dst.length yd) (.slice xs src.length ys) (.slice xt tok.length yt) sp ph (Hdr.num T) nl) rfl ?_ (hvA_size ..)) rfl ?_
          · rw [row?_drew]; exact row?_setRow_eq R2.out
          · rw [← HQ.out]
            have mm : Mut w.heap.size WB ((WB.setRow w.heap.size (hvA false kind ver (.slice xd dst.length yd) (.slice xs src.length ys) (.slice xt tok.length yt) sp ph (Hdr.num T) nl)).drew) := ((Mut.refl _ _).setRow _).drew
            exact ⟨.slice xd dst.length yd, .slice xs src.length ys, .slice xt tok.length yt, congrArg (fun p : Int × Int => Ending.returned (.tuple #[.agg (hvA false kind ver (.slice xd dst.length yd) (.slice xs src.length ys) (.slice xt tok.length yt) sp ph (Hdr.num T) nl), .int .i64 p.1, .int .i64 p.2, .int .i64 0])) (Prod.ext (x := ((wrap64 ((at_ : Int) + nl), (told : Int) - nl) : Int × Int)) (y := ((((at_ + nl : Nat) : Int), ((told - nl : Nat) : Int)) : Int × Int)) HWA.out (show (told : Int) - nl = ((told - nl : Nat) : Int) by omega)), Own.sl (mm.own OD.out (by omega)), Own.sl (mm.own OS.out (by omega)), Own.sl (mm.own OT.out (by omega)), BB.out.trans (mm.below (Nat.le_refl _) BB.out.size)⟩
    · have c91 : WA.cell? ⟨Bh, 9, none⟩ = some (.int .i64 (nl : Nat)) := row?_cell R6.out 9
      by_cases ht : told < nl
      · have hti : (told : Int) < (nl : Nat) := by omega
        rw [if_pos ⟨rfl, hti⟩] at hq
        have HQ := Lib.hid hq
        clear hq ht
        have r2 := R2.out
        go_wp2_with fail
        refine bodyPost_ret (results_row4 AgH rfl _ _ w.heap.size (hvA false 0 0 (.slice none 0 0) (.slice none 0 0) (.slice none 0 0) false false 0 0) rfl ?_ (hvA_size ..)) rfl ?_
        · exact row?_setRow_eq R2.out
        · rw [← HQ.out]
          exact ⟨.slice none 0 0, .slice none 0 0, .slice none 0 0, rfl, Sl.nil _, Sl.nil _, Sl.nil _, BB.out.trans (((Mut.refl w.heap.size WA).setRow (hvA false 0 0 (.slice none 0 0) (.slice none 0 0) (.slice none 0 0) false false 0 0)).below (Nat.le_refl _) BB.out.size)⟩
      · have hti : ¬ (told : Int) < (nl : Nat) := by omega
        rw [if_neg (fun h => hti h.2)] at hq
        have HNT := Lib.hid (show at_ + nl ≤ b.length → nl ≤ told from fun h => by omega)
        clear HSH ht c91
        have c9 : WA.cell? ⟨Bh, 9, none⟩ = some (.int .i64 (nl : Nat)) := row?_cell R6.out 9
        have hwA : wrap64 ((at_ : Int) + nl) = (at_ : Int) + nl := by have := HBL.out; have := HAT.out; unfold wrap64; omega
        by_cases ha : b.length < at_ + nl
        · have hai : ((b.length : Nat) : Int) < (at_ : Int) + nl := by omega
          rw [if_pos ha] at hq
          have HQ := Lib.hid hq
          clear hq ha
          have r2 := R2.out
          go_wp2_with fail
          refine bodyPost_ret (results_row4 AgH rfl _ _ w.heap.size (hvA false 0 0 (.slice none 0 0) (.slice none 0 0) (.slice none 0 0) false false 0 0) rfl ?_ (hvA_size ..)) rfl ?_
          · exact row?_setRow_eq R2.out
          · rw [← HQ.out]
            exact ⟨.slice none 0 0, .slice none 0 0, .slice none 0 0, rfl, Sl.nil _, Sl.nil _, Sl.nil _, BB.out.trans (((Mut.refl w.heap.size WA).setRow (hvA false 0 0 (.slice none 0 0) (.slice none 0 0) (.slice none 0 0) false false 0 0)).below (Nat.le_refl _) BB.out.size)⟩
        · have hai : ¬ ((b.length : Nat) : Int) < (at_ : Int) + nl := by omega
          rw [if_neg ha] at hq
          obtain ⟨T, hT⟩ : ∃ T, (b.drop at_).take nl = T := ⟨_, rfl⟩
          have hTl : T.length = nl := by rw [← hT]; simp; omega
          have hsc := HSB.out.cut at_ (at_ + nl) (by omega) (by omega)
          have et : (b.take (at_ + nl)).drop at_ = (b.drop at_).take nl := by rw [List.drop_take, Nat.add_sub_cancel_left]
          rw [et, hT, Nat.add_sub_cancel_left] at hsc
          have hcut : ∀ W, (Instr.sliceAt 23 (.slice ao b.length cap) (some (.int .i64 (at_ : Nat))) (some (.int .i64 ((at_ : Int) + nl))) none).run Try.prog W = .ok (.slice (cutA ao at_ cap) nl (cap - at_)) W := fun W => by
            rw [show ((at_ : Int) + nl) = ((at_ + nl : Nat) : Int) from rfl, cut_lh TB W _ _ _ _ _ _ _ (by omega) (by omega) (by have := HCC.out; omega), Int.toNat_natCast, Int.toNat_natCast, Nat.add_sub_cancel_left]
          have hnu := rnumb_any T (by omega) (.slice (cutA ao at_ cap) nl (cap - at_)) WA (hsc.below BB.out)
          rw [hT] at hq
          have HQ1 := Lib.hid hq
          have HNU := Lib.hid hnu
          have HA := Lib.hid ha
          have c88 := row?_cell R6.out 8
          have f88 := row?_frozen R6.out 8
          clear hq ha hT hTl hsc et hnu
          go_wp2_with fail
          refine HNU.out.mono ?_
          rintro e w' ⟨rfl, rfl⟩
          clear HNU hcut
          go_wp2_with (with_reducible refine Rw.hold_ops 48 ?_)
          refine Rw.Held.mk ?_
          clear c88 f88 c9 hai
          have mx : Mut Bh WA (WA.setCell ⟨Bh, 8, none⟩ (.int .u64 (Hdr.num T : Nat))) := (Mut.refl _ _).setCell _ _ _
          have x6 : row? (WA.setCell ⟨Bh, 8, none⟩ (.int .u64 (Hdr.num T : Nat))) Bh = some (hvA true kind ver (.slice xd dst.length yd) (.slice xs src.length ys) (.slice xt tok.length yt) sp ph (Hdr.num T) nl) := by rw [row?_setCell_eq R6.out]; rfl
          generalize (WA.setCell ⟨Bh, 8, none⟩ (.int .u64 (Hdr.num T : Nat))) = WB at mx x6 ⊢
          have x2 := mx.row R2.out (by omega)
          have xb := BB.out.trans (mx.below (by omega) BB.out.size)
          have xd_ := mx.below (N := w1.heap.size) (by omega) (by omega)
          have od := own_below (BW1.out.trans xd_) OD.out
          have os := own_below (BW1.out.trans xd_) OS.out
          have ot := own_below (BW1.out.trans xd_) OT.out
          have zb := mx.size
          clear R6 R2 BB mx OD OS OT xd_ BW1
          have R6 := Lib.hid x6
          have R2 := Lib.hid x2
          have BB := Lib.hid xb
          have OD := Lib.hid od
          have OS := Lib.hid os
          have OT := Lib.hid ot
          clear x6 x2 xb od os ot
          have c9 : WB.cell? ⟨Bh, 9, none⟩ = some (.int .i64 (nl : Nat)) := row?_cell R6.out 9
          have hnt : nl ≤ told := HNT.out (by have := HA.out; omega)
          have HWA := Lib.hid hwA
          clear hwA
          have hwB : wrap64 ((told : Int) - nl) = (told : Int) - nl := by have := HBL.out; have := HTO.out; unfold wrap64; omega
          have HWB := Lib.hid hwB
          clear hwB
          have hwC : wrap64 ((at_ : Int) + told) = (at_ : Int) + told := by have := HBL.out; have := HAT.out; have := HTO.out; unfold wrap64; omega
          have HWC := Lib.hid hwC
          clear hwC
          have hq := HQ1.out
          clear HQ1
          by_cases hb2 : b.length < at_ + told
          · have hbi : ((b.length : Nat) : Int) < (at_ : Int) + told := by omega
            rw [if_pos hb2] at hq
            have HQ := Lib.hid hq
            have hwB := HWB.out
            have hwC := HWC.out
            clear hq hb2
            have r2 := R2.out
            go_wp2_with fail
            refine bodyPost_ret (results_row4 AgH rfl _ _ w.heap.size (hvA false 0 0 (.slice none 0 0) (.slice none 0 0) (.slice none 0 0) false false 0 0) rfl ?_ (hvA_size ..)) rfl ?_
            · exact row?_setRow_eq R2.out
            · rw [← HQ.out]
              exact ⟨.slice none 0 0, .slice none 0 0, .slice none 0 0, rfl, Sl.nil _, Sl.nil _, Sl.nil _, BB.out.trans (((Mut.refl w.heap.size WB).setRow (hvA false 0 0 (.slice none 0 0) (.slice none 0 0) (.slice none 0 0) false false 0 0)).below (Nat.le_refl _) BB.out.size)⟩
          · have hbi : ¬ ((b.length : Nat) : Int) < (at_ : Int) + told := by omega
            rw [if_neg hb2] at hq
            have HQ := Lib.hid hq
            clear hq hb2
            have r6 := R6.out
            have r2 := R2.out
            have c9s : (WB.setRow w.heap.size (hvA true kind ver (.slice xd dst.length yd) (.slice xs src.length ys) (.slice xt tok.length yt) sp ph (Hdr.num T) nl)).cell? ⟨Bh, 9, none⟩ = some (.int .i64 (nl : Nat)) := row?_cell (show row? (WB.setRow w.heap.size (hvA true kind ver (.slice xd dst.length yd) (.slice xs src.length ys) (.slice xt tok.length yt) sp ph (Hdr.num T) nl)) Bh = some (hvA true kind ver (.slice xd dst.length yd) (.slice xs src.length ys) (.slice xt tok.length yt) sp ph (Hdr.num T) nl) from by rw [row?_setRow_ne _ _ _ _ (by omega)]; exact R6.out) 9
            have hwA := HWA.out
            have hwB := HWB.out
            have hwC := HWC.out
            go_wp2_with fail
            go_region
            all_goals (go_wp2_with fail)
            clear hwA hwB hwC c9s
            refine bodyPost_ret (results_row4 AgH rfl _ _ w.heap.size (hvA true kind ver (.slice xd dst.length yd) (.slice xs src.length ys) (.slice xt tok.length yt) sp ph (Hdr.num T) nl) rfl ?_ (hvA_size ..)) rfl ?_
            · rw [row?_drew]; exact row?_setRow_eq R2.out
            · rw [← HQ.out]
              have mm : Mut w.heap.size WB ((WB.setRow w.heap.size (hvA true kind ver (.slice xd dst.length yd) (.slice xs src.length ys) (.slice xt tok.length yt) sp ph (Hdr.num T) nl)).drew) := ((Mut.refl _ _).setRow _).drew
              exact ⟨.slice xd dst.length yd, .slice xs src.length ys, .slice xt tok.length yt, congrArg (fun p : Int × Int => Ending.returned (.tuple #[.agg (hvA true kind ver (.slice xd dst.length yd) (.slice xs src.length ys) (.slice xt tok.length yt) sp ph (Hdr.num T) nl), .int .i64 p.1, .int .i64 p.2, .int .i64 0])) (Prod.ext (x := ((wrap64 ((at_ : Int) + nl), (told : Int) - nl) : Int × Int)) (y := ((((at_ + nl : Nat) : Int), ((told - nl : Nat) : Int)) : Int × Int)) HWA.out (show (told : Int) - nl = ((told - nl : Nat) : Int) by omega)), Own.sl (mm.own OD.out (by omega)), Own.sl (mm.own OS.out (by omega)), Own.sl (mm.own OT.out (by omega)), BB.out.trans (mm.below (Nat.le_refl _) BB.out.size)⟩
end Go.Proofs.Ytgaheodnembjiaa
