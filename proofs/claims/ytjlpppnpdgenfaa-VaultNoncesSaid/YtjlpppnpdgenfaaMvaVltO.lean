/- The walk of vault.Open. -/
import Derived.Test.YtjlpppnpdgenfaaMva22
import Derived.Test.YtjlpppnpdgenfaaMvaVltSe
import Derived.Test.YtjlpppnpdgenfaaMva9
namespace Go.Rw
open Go Go.RowKit
theorem Sl.first {w : World} {ao : Option Addr} {n cap : Nat} {l : List UInt8} (h : Sl w (.slice ao n cap) l) (m : Nat) (hm : m ≤ n) : Sl w (.slice ao m cap) (l.take m) := by
  obtain ⟨ao', cap', e, hc, hn, hp⟩ := h
  cases e
  have hl : (l.take m).length = m := by rw [List.length_take]; omega
  refine ⟨ao, cap, by rw [hl], by rw [hl]; omega, hn, fun h0 => ?_⟩
  rw [hl] at h0
  obtain ⟨b, off, rfl, hcell⟩ := hp (by omega)
  refine ⟨b, off, rfl, fun k hk => ?_⟩
  rw [hl] at hk
  rw [hcell k (by omega)]
  unfold nth
  rw [List.getElem?_take, if_pos hk]
theorem results_row3 {P : Program} {fn : Func} {p a b : Tmp} {t n : Nat} (A : Agg P t n) (hr : fn.results = #[.cell p t, .tmp a, .tmp b]) (tmps : Array Value) (w : World) (blk : Nat) (cells : Array Value)
    (hp : tmps.getD p undef = .pointer (some ⟨blk, 0, none⟩)) (h : row? w blk = some cells) (hn : cells.size = n) : (results fn tmps).run P w = .ok (.tuple #[.agg cells, tmps.getD a undef, tmps.getD b undef]) w := by
  have h1 := results_row (fn := { fn with results := #[.cell p t] }) A rfl tmps w blk cells hp h hn
  simp only [results] at h1 ⊢
  simp [hr, Sem.run_bind, Result.andThen] at h1 ⊢
  cases hq : Sem.run P (asAddr (tmps[p]?.getD undef)) w with
  | ok x w1 =>
    rw [hq] at h1
    simp only [] at h1 ⊢
    rw [h1]
  | halt x w1 => rw [hq] at h1; cases h1
end Go.Rw
namespace Vlt
open Go.Rw Hdr
theorem full_lt (c : Nat) (n : Int) (largest : Nat) (any : Bool) : full c n largest any < 18446744073709551616 := by
  unfold full
  split
  · decide
  · rename_i h
    have hw : Hdr.wide n = 256 ∨ wide n = 65536 ∨ wide n = 16777216 ∨ wide n = 4294967296 := by
      unfold Hdr.wide
      split
      · exact .inl rfl
      split
      · exact .inr (.inl rfl)
      split
      · exact .inr (.inr (.inl rfl))
      · exact .inr (.inr (.inr rfl))
    have hx : (if any = true then largest + 1 else 0) ≤ 4611686018427387904 := by split <;> omega
    generalize (if any = true then largest + 1 else 0) = x at hx
    generalize Hdr.wide n = W at hw
    unfold fullW
    have h1 : x / W * W ≤ x := Nat.div_mul_le_self _ _
    have h2 : c % W < W := Nat.mod_lt _ (by omega)
    generalize x / W * W = o at *
    generalize c % W = r at *
    simp only []
    split
    · omega
    split <;> omega
end Vlt
namespace Go.Proofs.Ytjlpppnpdgenfaa
open Go.RowKit Go.Rw Aes Hdr Vlt
attribute [local go_sem ↓] bdH hvA_0 hvA_1 hvA_2 hvA_3 hvA_4 hvA_5 hvA_6 hvA_7 hvA_8 hvA_9
attribute [local go_sem ↓] ldH stH alH ld16 st16 al16 ld12 ldK shift_shr8 bvs_getElem?
attribute [local go_sem] rldH rstH ralH rld16 rst16 ral16 setRow_alloc_at setRow_alloc_past setRow_drew bvs_setn buildH buildH0
/-- What Open answers. -/
def OpenPost (w : World) (q : Hd × List UInt8 × Int) (e : Ending) (w' : World) : Prop :=
  ∃ vd vs vt vx, e = .returned (.tuple #[.agg (hvA q.1.long q.1.kind q.1.ver vd vs vt q.1.spin q.1.phase q.1.num q.1.nl), vx, .int .i64 q.2.2]) ∧
    w'.ownsRow w.heap.size 5 1 vd q.1.dst.length (q.1.dst.map bv) ∧ w'.ownsRow w.heap.size 5 1 vs q.1.src.length (q.1.src.map bv) ∧ w'.ownsRow w.heap.size 5 1 vt q.1.tok.length (q.1.tok.map bv) ∧
    w'.ownsRow w.heap.size 5 1 vx q.2.1.length (q.2.1.map bv) ∧ Below w.heap.size w w'
theorem OpenPost.none {w w' : World} {x : Int} (h : Below w.heap.size w w') : OpenPost w (hd0, [], x) (.returned (.tuple #[.agg (hvA false 0 0 (.slice none 0 0) (.slice none 0 0) (.slice none 0 0) false false 0 0), .slice none 0 0, .int .i64 x])) w' :=
  ⟨_, _, _, _, rfl, World.ownsRow_nil _ _ _ _, World.ownsRow_nil _ _ _ _, World.ownsRow_nil _ _ _ _, World.ownsRow_nil _ _ _ _, h⟩
set_option maxRecDepth 100000 in
set_option maxHeartbeats 4000000 in
theorem vopen_any (key iv msk : List UInt8) (hk : key.length = 16) (hiv : iv.length = 12) (hmk : msk.length = 16) (b : List UInt8) (hb : b.length ≤ 1000000) (largest : Nat) (hlg : largest < 18446744073709551616) (any : Bool) (vb : Value) (w : World) (hsb : Sl w vb b) :
    Calls Try.prog 14 #[.agg (bvs (ksB key iv msk)), vb, .int .u64 (largest : Nat), .bool any] w (OpenPost w (openV key iv msk b largest any)) := by
  obtain ⟨ao, cap, rfl, hcap, -, -⟩ := id hsb
  have hKl := ksB_length hk hiv hmk
  have hKk := ksB_key (iv := iv) (msk := msk) hk
  have hKi := ksB_iv (msk := msk) hk hiv
  obtain ⟨R, hR⟩ : ∃ R, openV key iv msk b largest any = R := ⟨_, rfl⟩
  rw [hR]
  have hah := fun W (h : Sl W (.slice ao b.length cap) b) => ahead_w b hb (.slice ao b.length cap) W h
  rw [aheadP_Q b hb] at hah
  unfold aheadQ at hah
  unfold openV at hR
  have HSB := Lib.hid hsb
  have HLG := Lib.hid hlg
  clear hsb hlg
  cases hl : lead b true with
  | error x =>
    have hx := lead_err hl
    rw [hl] at hah hR
    have HAH := Lib.hid hah
    have HRR := Lib.hid hR
    have hx' : (x != 0) = true := by simpa using hx
    clear hah hR hl hx
    generalize ksB key iv msk = KB at *
    go_enter Try.func14, Try.ntmps14
    go_wp2_with fail
    refine (HAH.out _ (HSB.out.below (bel2 w _ _))).mono ?_
    rintro e w1 ⟨rfl, hb1⟩
    have z1 := hb1.size
    simp at z1
    have r1 : row? w1 (w.heap.size + 1) = some (hvA false 0 0 (.slice none 0 0) (.slice none 0 0) (.slice none 0 0) false false 0 0) := by rw [row?_below hb1 (by simp)]; simp [go_sem]
    have hbw : Below w.heap.size w w1 := (bel2 w _ _).trans (hb1.mono (by simp; omega))
    clear hb1
    go_wp2_with fail
    refine bodyPost_ret (results_row3 AgH rfl _ _ (w.heap.size + 1) (hvA false 0 0 (.slice none 0 0) (.slice none 0 0) (.slice none 0 0) false false 0 0) rfl (row?_setRow_eq r1) (hvA_size ..)) rfl ?_
    rw [← HRR.out]
    exact OpenPost.none (below_setRow hbw (by omega) _)
  | ok q =>
    obtain ⟨h, at_, told⟩ := q
    rw [hl] at hah hR
    simp only [] at hah hR
    by_cases hs : b.length < at_ + told
    · have hR' := hR
      rw [if_pos (.inr hs)] at hR'
      rw [if_pos hs] at hah
      have HAH := Lib.hid hah
      have HRR := Lib.hid hR'
      clear hah hR hR' hl hs
      generalize ksB key iv msk = KB at *
      go_enter Try.func14, Try.ntmps14
      go_wp2_with fail
      refine (HAH.out _ (HSB.out.below (bel2 w _ _))).mono ?_
      rintro e w1 ⟨rfl, hb1⟩
      have z1 := hb1.size
      simp at z1
      have r1 : row? w1 (w.heap.size + 1) = some (hvA false 0 0 (.slice none 0 0) (.slice none 0 0) (.slice none 0 0) false false 0 0) := by rw [row?_below hb1 (by simp)]; simp [go_sem]
      have hbw : Below w.heap.size w w1 := (bel2 w _ _).trans (hb1.mono (by simp; omega))
      clear hb1
      go_wp2_with fail
      refine bodyPost_ret (results_row3 AgH rfl _ _ (w.heap.size + 1) (hvA false 0 0 (.slice none 0 0) (.slice none 0 0) (.slice none 0 0) false false 0 0) rfl (row?_setRow_eq r1) (hvA_size ..)) rfl ?_
      rw [← HRR.out]
      exact OpenPost.none (below_setRow hbw (by omega) _)
    by_cases h20 : told < 20
    · rw [if_pos (.inl h20)] at hR
      rw [if_neg hs] at hah
      have HAH := Lib.hid hah
      have HRR := Lib.hid hR
      have h20i : ((at_ + told : Nat) : Int) - (at_ : Nat) < 20 := by omega
      clear hah hR hl
      generalize ksB key iv msk = KB at *
      go_enter Try.func14, Try.ntmps14
      go_wp2_with fail
      refine (HAH.out _ (HSB.out.below (bel2 w _ _))).mono ?_
      rintro e w1 ⟨rfl, hb1⟩
      have z1 := hb1.size
      simp at z1
      have r1 : row? w1 (w.heap.size + 1) = some (hvA false 0 0 (.slice none 0 0) (.slice none 0 0) (.slice none 0 0) false false 0 0) := by rw [row?_below hb1 (by simp)]; simp [go_sem]
      have hbw : Below w.heap.size w w1 := (bel2 w _ _).trans (hb1.mono (by simp; omega))
      clear hb1
      go_wp2_with fail
      refine bodyPost_ret (results_row3 AgH rfl _ _ (w.heap.size + 1) (hvA false 0 0 (.slice none 0 0) (.slice none 0 0) (.slice none 0 0) false false 0 0) rfl (row?_setRow_eq r1) (hvA_size ..)) rfl ?_
      rw [← HRR.out]
      exact OpenPost.none (below_setRow hbw (by omega) _)
    rw [if_neg (not_or.2 ⟨h20, hs⟩)] at hR
    rw [if_neg hs] at hah
    obtain ⟨h1, hget⟩ := get_unmask (msk := msk) hb hl (by omega) (by omega)
    have hlt : (b.take (at_ + told)).length = at_ + told := by rw [List.length_take]; omega
    have hmask := fun W g cap o => mask_any key iv msk (b.take (at_ + told)) hk hiv hmk at_ 0 g cap w.heap.size (by omega) (by omega) (by omega) W o
    have hcl : (maskW msk (b.take (at_ + told)) at_ 0).length = at_ + told := by rw [maskW_length, hlt]
    unfold openC at hR
    generalize maskW msk (b.take (at_ + told)) at_ 0 = c at *
    have hga := fun vc W (h : Sl W vc c) => get_any c (by omega) vc W h
    rw [hget] at hga
    have hclone := fun vc W (h : Sl W vc (b.take (at_ + told))) => clone_any (b.take (at_ + told)) (by omega) vc W h
    have hcut := fun W (h : Sl W (.slice ao b.length cap) b) => Sl.first h (at_ + told) (by omega)
    obtain ⟨en, hen⟩ : ∃ en, at_ + told = en := ⟨_, rfl⟩
    rw [hen] at hah hmask hlt hcl hclone hcut
    generalize b.take en = p at *
    simp only [hlt] at hmask hclone
    have HAH := Lib.hid hah
    have HRR := Lib.hid hR
    have HGA := Lib.hid hga
    have HMK := Lib.hid hmask
    have HCL := Lib.hid hclone
    have HCT := Lib.hid hcut
    have HLT := Lib.hid hlt
    have HCC := Lib.hid hcl
    have HEN := Lib.hid hen
    have hen1 : at_ + 20 ≤ en := by omega
    have hen2 : en ≤ b.length := by omega
    have hen3 : en ≤ cap := by omega
    have h20i : ¬ ((en : Nat) : Int) - (at_ : Nat) < 20 := by omega
    clear hah hR hl hget hga hmask hclone hcut hlt hcl hen hs h20
    generalize ksB key iv msk = KB at *
    go_enter Try.func14, Try.ntmps14
    go_wp2_with fail
    refine (HAH.out _ (HSB.out.below (bel2 w _ _))).mono ?_
    rintro e w1 ⟨rfl, hb1⟩
    have z1 := hb1.size
    simp at z1
    have r1 : row? w1 (w.heap.size + 1) = some (hvA false 0 0 (.slice none 0 0) (.slice none 0 0) (.slice none 0 0) false false 0 0) := by rw [row?_below hb1 (by simp)]; simp [go_sem]
    have hbw : Below w.heap.size w w1 := (bel2 w _ _).trans (hb1.mono (by simp; omega))
    have r0 : row? w1 w.heap.size = some (bvs KB) := by rw [row?_below hb1 (by simp; omega)]; simp [go_sem]
    have R0 := Lib.hid r0
    have R1 := Lib.hid r1
    have B1 := Lib.hid hb1
    clear r0 r1 hb1
    go_wp2_with fail
    refine (HCL.out _ _ (HCT.out _ (HSB.out.below hbw))).mono ?_
    rintro e w2 ⟨vc, rfl, oc, hb2⟩
    have z2 := hb2.size
    have hbw2 : Below w.heap.size w w2 := hbw.trans (hb2.mono (by omega))
    have r0 : row? w2 w.heap.size = some (bvs KB) := by rw [row?_below hb2 (by omega)]; exact R0.out
    have r1 : row? w2 (w.heap.size + 1) = some (hvA false 0 0 (.slice none 0 0) (.slice none 0 0) (.slice none 0 0) false false 0 0) := by rw [row?_below hb2 (by omega)]; exact R1.out
    obtain ⟨g, c2, rfl, hgB, hc2⟩ : ∃ g c2, vc = .slice (some ⟨g, 0, none⟩) en c2 ∧ w1.heap.size ≤ g ∧ en ≤ c2 := by
      rcases oc.2 with ⟨_, h0⟩ | ⟨g, cap, cur, e, hb, _, hle, _⟩
      · omega
      · exact ⟨g, cap, e, hb, hle⟩
    have hmk := HMK.out w2 g c2 (own_lower oc (by omega))
    have MK2 := Lib.hid hmk
    have l2 : (loadAgg 25 (.pointer (some ⟨w.heap.size, 0, none⟩))).run Try.prog w2 = .ok (.agg (bvs KB)) w2 := rldK w2 _ _ r0 hKl
    clear R0 R1 hbw HCL HCT B1 oc hmk HMK
    have R0 := Lib.hid r0
    have R1 := Lib.hid r1
    clear r0 r1 hb2
    go_wp2_with fail
    refine MK2.out.mono ?_
    rintro e w3 ⟨rfl, o3, g3⟩
    have hbw3 : Below w.heap.size w w3 := hbw2.grown g3 hbw2.size (fun q hq => by have e : g = q := Option.some.inj hq; omega)
    have z3 := g3.size
    have r0 : row? w3 w.heap.size = some (bvs KB) := row_grown g3 R0.out (fun h => by have := Option.some.inj h; omega)
    have r1 : row? w3 (w.heap.size + 1) = some (hvA false 0 0 (.slice none 0 0) (.slice none 0 0) (.slice none 0 0) false false 0 0) := row_grown g3 R1.out (fun h => by have := Option.some.inj h; omega)
    have sc : Sl w3 (.slice (some ⟨g, 0, none⟩) en c2) c := by
      have := o3
      rw [← HCC.out] at this ⊢
      exact Own.sl this
    clear R0 R1 hbw2 l2 MK2 g3 o3
    have R0 := Lib.hid r0
    have R1 := Lib.hid r1
    have SC := Lib.hid sc
    clear r0 sc
    go_wp2_with fail
    refine (HGA.out _ _ SC.out).mono ?_
    by_cases ho : oddU h c ≠ 0
    · have hR := HRR.out
      rw [if_pos ho] at hR
      rw [if_pos ho]
      have HR2 := Lib.hid hR
      rintro e w4 ⟨vd, vs, vt, rfl, od, os, ot, -, hb4⟩
      have r1' : row? w4 (w.heap.size + 1) = some (hvA false 0 0 (.slice none 0 0) (.slice none 0 0) (.slice none 0 0) false false 0 0) := by rw [row?_below hb4 (by omega)]; exact r1
      have hbw4 : Below w.heap.size w w4 := hbw3.trans (hb4.mono (by omega))
      have z4 := hb4.size
      have hlt4 : w.heap.size + 1 < w4.heap.size := by omega
      obtain ⟨av, cv, rfl, -, -, -⟩ := id (Own.sl od)
      obtain ⟨as_, cs, rfl, -, -, -⟩ := id (Own.sl os)
      obtain ⟨at_', ct, rfl, -, -, -⟩ := id (Own.sl ot)
      clear HGA HRR hR ho od os ot hb4 r1 R0 R1 hbw3
      go_wp2_with fail
      refine bodyPost_ret (results_row3 AgH rfl _ _ (w.heap.size + 1) (hvA false 0 0 (.slice none 0 0) (.slice none 0 0) (.slice none 0 0) false false 0 0) rfl (by rw [row?_alloc_past _ _ _ (by simpa using hlt4)]; exact row?_setRow_eq r1') (hvA_size ..)) rfl ?_
      rw [← HR2.out]
      exact OpenPost.none ((below_setRow hbw4 (by omega) _).alloc (by simp; omega) _)
    · have hR := HRR.out
      rw [if_neg ho] at hR
      rw [if_neg ho]
      have hnum : num ((c.drop at_).take (nlU c)) < 18446744073709551616 := by
        have h := num_lt ((c.drop at_).take (nlU c))
        have h2 : 256 ^ ((c.drop at_).take (nlU c)).length ≤ 256 ^ 4 := Nat.pow_le_pow_right (by decide) (by have := (nlU_bd c).2; simp; omega)
        exact Nat.lt_of_lt_of_le h (Nat.le_trans h2 (by decide))
      obtain ⟨hnl1, hnl4⟩ := nlU_bd c
      have hfull := fun W => full_any (num ((c.drop at_).take (nlU c))) (nlU c : Nat) largest any hnum (by omega) (by omega) HLG.out W
      have hflt := full_lt (num ((c.drop at_).take (nlU c))) (nlU c : Nat) largest any
      generalize full (num ((c.drop at_).take (nlU c))) (nlU c : Nat) largest any = fu at hR hfull hflt
      obtain ⟨u, rfl⟩ : ∃ u : UInt64, fu = n64 u := ⟨UInt64.ofNat fu, (n64_ofNat fu (by omega)).symm⟩
      generalize num ((c.drop at_).take (nlU c)) = nu at *
      have hnlE : (hdU h c).nl = (nlU c : Nat) := rfl
      unfold openN at hR
      simp only [] at hR
      have hu : UInt64.ofNat (n64 u) = u := UInt64.ofNat_toNat
      rw [hu] at hR
      generalize hdU h c = hd at *
      obtain ⟨lg, kind, ver, dst, src, tok, sp, ph, nm, nl⟩ := hd
      simp only [] at hR hnlE ⊢
      subst hnlE
      generalize nlU c = n at *
      have HR2 := Lib.hid hR
      have HFU := Lib.hid hfull
      rintro e w4 ⟨vd, vs, vt, rfl, od, os, ot, -, hb4⟩
      simp only [] at od os ot ⊢
      have r1' : row? w4 (w.heap.size + 1) = some (hvA false 0 0 (.slice none 0 0) (.slice none 0 0) (.slice none 0 0) false false 0 0) := by rw [row?_below hb4 (by omega)]; exact r1
      have r0' : row? w4 w.heap.size = some (bvs KB) := by rw [row?_below hb4 (by omega)]; exact R0.out
      have hbw4 : Below w.heap.size w w4 := hbw3.trans (hb4.mono (by omega))
      have z4 := hb4.size
      have hlt4 : w.heap.size + 1 < w4.heap.size := by omega
      have sc := SC.out.below hb4
      obtain ⟨av, cv, rfl, -, -, -⟩ := id (Own.sl od)
      obtain ⟨as_, cs, rfl, -, -, -⟩ := id (Own.sl os)
      obtain ⟨at_', ct, rfl, -, -, -⟩ := id (Own.sl ot)
      have OD := Lib.hid od
      have OS := Lib.hid os
      have OT := Lib.hid ot
      have R0' := Lib.hid r0'
      have R1' := Lib.hid r1'
      have SC' := Lib.hid sc
      clear HGA HRR hR ho od os ot hb4 r1 R0 R1 hbw3 hfull r0' r1' sc SC hflt hnum hu
      go_wp2_with fail
      refine (HFU.out _).mono ?_
      rintro e w5 ⟨rfl, rfl⟩
      clear HFU
      have a5 : row? (w4.alloc (.cells (hvA lg kind ver (.slice av dst.length cv) (.slice as_ src.length cs) (.slice at_' tok.length ct) sp ph nu n) 30)) w4.heap.size = some (hvA lg kind ver (.slice av dst.length cv) (.slice as_ src.length cs) (.slice at_' tok.length ct) sp ph nu n) := row?_alloc_at _ _ _ _ rfl
      have b5 : row? (w4.alloc (.cells (hvA lg kind ver (.slice av dst.length cv) (.slice as_ src.length cs) (.slice at_' tok.length ct) sp ph nu n) 30)) (w.heap.size + 1) = some (hvA false 0 0 (.slice none 0 0) (.slice none 0 0) (.slice none 0 0) false false 0 0) := by rw [row?_alloc_past _ _ _ hlt4]; exact R1'.out
      have d5 : row? (w4.alloc (.cells (hvA lg kind ver (.slice av dst.length cv) (.slice as_ src.length cs) (.slice at_' tok.length ct) sp ph nu n) 30)) w.heap.size = some (bvs KB) := by rw [row?_alloc_past _ _ _ (by omega)]; exact R0'.out
      have e5 : Below w4.heap.size w4 (w4.alloc (.cells (hvA lg kind ver (.slice av dst.length cv) (.slice as_ src.length cs) (.slice at_' tok.length ct) sp ph nu n) 30)) := (Below.refl _ _).alloc (Nat.le_refl _) _
      generalize (w4.alloc (.cells (hvA lg kind ver (.slice av dst.length cv) (.slice as_ src.length cs) (.slice at_' tok.length ct) sp ph nu n) 30)) = W5 at a5 b5 d5 e5 ⊢
      have c8 := row?_frozen a5 8
      have x5 : row? (W5.setCell ⟨w4.heap.size, 8, none⟩ (.int .u64 (n64 u : Nat))) w4.heap.size = some (hvA lg kind ver (.slice av dst.length cv) (.slice as_ src.length cs) (.slice at_' tok.length ct) sp ph (n64 u) n) := by rw [row?_setCell_eq a5]; rfl
      have mx : Mut w4.heap.size W5 (W5.setCell ⟨w4.heap.size, 8, none⟩ (.int .u64 (n64 u : Nat))) := (Mut.refl _ _).setCell _ _ _
      have y5 := mx.row b5 (by omega)
      have q5 := mx.row d5 (by omega)
      have e6 := e5.trans (mx.below (Nat.le_refl _) e5.size)
      have A5 := Lib.hid a5
      have X5 := Lib.hid (And.intro x5 (And.intro y5 (And.intro q5 e6)))
      clear a5 b5 d5 e5 x5 mx y5 q5 e6
      have c8' := row?_cell A5.out 8
      go_wp2_with fail
      clear c8 c8' A5
      obtain ⟨x5, y5, q5, e6⟩ := X5.out
      generalize (W5.setCell ⟨w4.heap.size, 8, none⟩ (.int .u64 (n64 u : Nat))) = W6 at x5 y5 q5 e6 ⊢
      clear X5
      have l1 : (loadAgg 22 (.pointer (some ⟨w.heap.size, 0, none⟩))).run Try.prog W6.drew = .ok (.agg (bvs key)) W6.drew := part16 W6.drew _ _ _ _ q5 (by simp only [bvs_size]; omega) hKk
      have l2 : (loadAgg 23 (.pointer (some ⟨w.heap.size, 16, none⟩))).run Try.prog W6.drew = .ok (.agg (bvs iv)) W6.drew := part12 W6.drew _ _ _ _ q5 (by simp only [bvs_size]; omega) hKi
      have c8 : W6.cell? ⟨w4.heap.size, 8, none⟩ = some (.int .u64 (n64 u : Nat)) := row?_cell x5 8
      have X5 := Lib.hid (And.intro x5 (And.intro y5 (And.intro q5 e6)))
      clear x5 y5 q5 e6
      refine Rg.wp_region_plan (Rg.row [(0, 3), (1, 0), (2, 3), (3, 0), (4, 3), (5, 0), (7, 3), (8, 3), (9, 3), (10, 3), (11, 3), (12, 3), (6, 1), (13, 1), (14, 3), (15, 3), (16, 3), (17, 3), (18, 3)] []) [] (by kernel_rfl) (by kernel_rfl) ?_
      simp only [Rg.row, Rg.PT.map, List.map_nil, List.getD_cons_zero, List.getD_cons_succ]
      go_wp2_with (first
        | ((with_reducible refine Rg.plan_pure ?_ ?_ ?_); kernel_rfl; kernel_rfl; intro _ _)
        | ((with_reducible refine Rg.plan_take ?_ ?_ ?_); kernel_rfl; kernel_rfl; intro _ _)
        | ((with_reducible refine Rg.plan_keep ?_ ?_); kernel_rfl; intro K hK)
        | (refine hK _ _ (Rg.Keep.refl _) ?_; clear hK)
        | (refine hK _ _ (Rg.Keep.of_below (by assumption)) ?_; clear hK)
        | ((with_reducible refine Rg.plan_skip ?_ ?_); kernel_rfl)
        | (with_reducible refine Rg.plan_done ?_)
        | (with_reducible refine Rg.calm_normal ?_))
      refine (nonce_any iv hiv u _).mono ?_
      rintro e w7 ⟨rfl, hb7⟩
      refine hK _ _ (Rg.Keep.of_below hb7) ?_
      clear hK
      obtain ⟨N, hN⟩ : ∃ N, nonce iv u = N := ⟨_, rfl⟩
      have hNl : N.length = 12 := by rw [← hN]; exact (nv_length iv u 8).trans hiv
      rw [hN]
      have hR := HR2.out
      rw [hN] at hR
      have HR3 := Lib.hid hR
      have HB7 := Lib.hid hb7
      clear hR HR2 hb7 hN
      go_wp2_with (first
        | ((with_reducible refine Rg.plan_pure ?_ ?_ ?_); kernel_rfl; kernel_rfl; intro _ _)
        | ((with_reducible refine Rg.plan_take ?_ ?_ ?_); kernel_rfl; kernel_rfl; intro _ _)
        | ((with_reducible refine Rg.plan_keep ?_ ?_); kernel_rfl; intro K hK)
        | (refine hK _ _ (Rg.Keep.refl _) ?_; clear hK)
        | (refine hK _ _ (Rg.Keep.of_below (by assumption)) ?_; clear hK)
        | ((with_reducible refine Rg.plan_skip ?_ ?_); kernel_rfl)
        | (with_reducible refine Rg.plan_done ?_)
        | (with_reducible refine Rg.calm_normal ?_))
      have hcl := HCC.out
      have hst := (SC'.out.below X5.out.2.2.2).below ((Below.refl _ _).drew.trans HB7.out)
      have hs1 : Sl w7 (.slice (some ⟨g, at_ + n, none⟩) (en - (at_ + n)) (c2 - (at_ + n))) (c.drop (at_ + n)) := by
        have := hst.cut (at_ + n) en (by omega) (by omega)
        unfold cutA at this
        rw [if_neg (by omega), List.take_of_length_le (by omega)] at this
        simpa [Addr.add_lit] using this
      have hs2 : Sl w7 (.slice (some ⟨g, 0, none⟩) (at_ + n) c2) (c.take (at_ + n)) := hst.first (at_ + n) (by omega)
      refine (open_any key N (c.drop (at_ + n)) (c.take (at_ + n)) hk hNl (by simp; omega) (by simp; omega) _ _ _ hs1 hs2).mono ?_
      have hR := HR3.out
      obtain ⟨oo, hoo⟩ : ∃ oo, Gcm.opened key N (c.drop (at_ + n)) (c.take (at_ + n)) = oo := ⟨_, rfl⟩
      rw [hoo] at hR ⊢
      obtain ⟨x, T⟩ := oo
      simp only [] at hR ⊢
      clear hoo HR3 hs1 hs2 hst
      rintro e w8 ⟨vx, rfl, ox, hb8⟩
      refine hK _ _ (Rg.Keep.of_below hb8) ?_
      clear hK
      obtain ⟨ax, cx, rfl, -, -, -⟩ := id (Own.sl ox)
      have hz6 := X5.out.2.2.2.size
      have hz7 := HB7.out.size
      have hz8 := hb8.size
      simp at hz7
      have hz7' : W6.heap.size ≤ w7.heap.size := hz7
      have h68 : Below W6.heap.size W6 w8 := (Below.refl _ _).drew.trans (HB7.out.trans (hb8.mono hz7'))
      have h48 : Below w4.heap.size w4 w8 := X5.out.2.2.2.trans (h68.mono hz6)
      have x8 : row? w8 w4.heap.size = some (hvA lg kind ver (.slice av dst.length cv) (.slice as_ src.length cs) (.slice at_' tok.length ct) sp ph (n64 u) n) := Rg.stable_row h68 X5.out.1
      have y8 : row? w8 (w.heap.size + 1) = some (hvA false 0 0 (.slice none 0 0) (.slice none 0 0) (.slice none 0 0) false false 0 0) := Rg.stable_row h68 X5.out.2.1
      have hbw8 : Below w.heap.size w w8 := hbw4.trans (h48.mono hbw4.size)
      have OX := Lib.hid (own_lower ox (show w.heap.size + 2 ≤ w7.heap.size by omega))
      have OD8 := Lib.hid (own_lower (Go.Rw.own_below OD.out h48) (show w.heap.size + 2 ≤ w3.heap.size by omega))
      have OS8 := Lib.hid (own_lower (Go.Rw.own_below OS.out h48) (show w.heap.size + 2 ≤ w3.heap.size by omega))
      have OT8 := Lib.hid (own_lower (Go.Rw.own_below OT.out h48) (show w.heap.size + 2 ≤ w3.heap.size by omega))
      clear ox hb8 l1 l2 c8 h68 h48
      by_cases hx : x = 0
      · subst hx
        rw [if_neg (by simp)] at hR
        have HR4 := Lib.hid hR
        clear hR
        go_wp2_with (first
          | ((with_reducible refine Rg.plan_pure ?_ ?_ ?_); kernel_rfl; kernel_rfl; intro _ _)
          | ((with_reducible refine Rg.plan_take ?_ ?_ ?_); kernel_rfl; kernel_rfl; intro _ _)
          | ((with_reducible refine Rg.plan_keep ?_ ?_); kernel_rfl; intro K hK)
          | (refine hK _ _ (Rg.Keep.refl _) ?_; clear hK)
          | (refine hK _ _ (Rg.Keep.of_below (by assumption)) ?_; clear hK)
          | ((with_reducible refine Rg.plan_skip ?_ ?_); kernel_rfl)
          | (with_reducible refine Rg.plan_done ?_)
          | (with_reducible refine Rg.calm_normal ?_))
        refine bodyPost_ret (results_row3 AgH rfl _ _ (w.heap.size + 1) (hvA lg kind ver (.slice av dst.length cv) (.slice as_ src.length cs) (.slice at_' tok.length ct) sp ph (n64 u) n) rfl (row?_setRow_eq y8) (hvA_size ..)) rfl ?_
        rw [← HR4.out]
        have mm : Mut (w.heap.size + 1) w8 (w8.setRow (w.heap.size + 1) (hvA lg kind ver (.slice av dst.length cv) (.slice as_ src.length cs) (.slice at_' tok.length ct) sp ph (n64 u) n)) := (Mut.refl _ _).setRow _
        exact ⟨_, _, _, _, rfl, own_lower (mm.own OD8.out (by omega)) (by omega), own_lower (mm.own OS8.out (by omega)) (by omega), own_lower (mm.own OT8.out (by omega)) (by omega), own_lower (mm.own OX.out (by omega)) (by omega), below_setRow hbw8 (by omega) _⟩
      · rw [if_pos (by simpa using hx)] at hR
        have HR4 := Lib.hid hR
        have hx' : (((x : Nat) : Int) != 0) = true := by simpa using (show ((x : Nat) : Int) ≠ 0 by omega)
        clear hR hx
        go_wp2_with (first
          | ((with_reducible refine Rg.plan_pure ?_ ?_ ?_); kernel_rfl; kernel_rfl; intro _ _)
          | ((with_reducible refine Rg.plan_take ?_ ?_ ?_); kernel_rfl; kernel_rfl; intro _ _)
          | ((with_reducible refine Rg.plan_keep ?_ ?_); kernel_rfl; intro K hK)
          | (refine hK _ _ (Rg.Keep.refl _) ?_; clear hK)
          | (refine hK _ _ (Rg.Keep.of_below (by assumption)) ?_; clear hK)
          | ((with_reducible refine Rg.plan_skip ?_ ?_); kernel_rfl)
          | (with_reducible refine Rg.plan_done ?_)
          | (with_reducible refine Rg.calm_normal ?_))
        refine bodyPost_ret (results_row3 AgH rfl _ _ (w.heap.size + 1) (hvA false 0 0 (.slice none 0 0) (.slice none 0 0) (.slice none 0 0) false false 0 0) rfl (row?_setRow_eq y8) (hvA_size ..)) rfl ?_
        rw [← HR4.out]
        exact OpenPost.none (below_setRow hbw8 (by omega) _)
end Go.Proofs.Ytjlpppnpdgenfaa
