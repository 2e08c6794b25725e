/- The walk of package header's Get, whatever the bytes. -/
import Derived.Test.YtjlpppnpdgenfaaMva5
import Derived.ScopeJumps
import Derived.WalkMore
namespace Hdr
open Go.Rw
theorem gAll_short {b : List UInt8} (h : (gByte b &&& 128 != 0) = false) : gAll b = ((gShortN b).1, ⟨false, 0, 0, (gShort b).2, [], [], gByte b &&& 32 != 0, gByte b &&& 4 != 0, (gShortN b).2, gNl b⟩, b.length - (gShortN b).1.1) := by
  unfold gAll; rw [if_neg (by rw [h]; decide)]
theorem gAll_long {b : List UInt8} (h : (gByte b &&& 128 != 0) = true) : gAll b = ((lEnd b (gKind b) (gNl b) (gLong b)).1, ⟨true, gKind b, (aVer b (gKind b) (gLong b)).2, (aDst b (gKind b) (gLong b)).2, (aSrc b (gKind b) (gLong b)).2, (aTok b (gKind b) (gLong b)).2, false, false, (lNum b (gKind b) (gNl b) (gLong b)).2, gNl b⟩, (lEnd b (gKind b) (gNl b) (gLong b)).2) := by
  unfold gAll; rw [if_pos h]
theorem get_of {b : List UInt8} {s : Nat × Int} {h : Hd} {r : Nat} (e : gAll b = (s, h, r)) : get b = if s.2 ≠ 0 then (hd0, 0, 0, s.2) else (h, s.1, r, 0) := by
  unfold get; rw [e]
theorem and3_lt (f : UInt8) : n8 (f &&& 3) < 4 := by
  unfold n8
  rw [UInt8.toNat_and]
  exact Nat.lt_of_le_of_lt (Nat.and_le_right) (by decide)
end Hdr
namespace Go.Proofs.Ytjlpppnpdgenfaa
open Go.RowKit Go.Rw Hdr
theorem AgR : Agg Try.prog 92 3 := ⟨⟨_, Try.underlying92, rfl⟩, by kernel_rfl⟩
attribute [local go_sem ↓] bdR bdH hvA_0 hvA_1 hvA_2 hvA_3 hvA_4 hvA_5 hvA_6 hvA_7 hvA_8 hvA_9
attribute [local go_sem] buildR buildH buildH0
attribute [local go_sem ↓] ldH stH alH shift_shl8 shift_shr8 shift_shl64 shift_shr64
attribute [local go_sem] rldH rstH ralH setRow_alloc_at setRow_alloc_past setRow_drew
theorem J_of {J : Act → World → Prop} {F : Nat × Value → (Nat → Value) → Array Value} {R : Nat × Value → World → Prop} (h : ∀ a w, J a w ↔ ∃ x z, a = ⟨F x z, []⟩ ∧ R x w) {t : Array Value} {w : World} (x : Nat × Value) (ht : t = F x (fun i => t.getD i undef)) (hr : R x w) : J ⟨t, []⟩ w :=
  (h _ _).2 ⟨x, fun i => t.getD i undef, by rw [← ht], hr⟩
/-- What Get answers. -/
def GetPost (w : World) (q : Hd × Nat × Nat × Int) (e : Ending) (w' : World) : Prop :=
  ∃ vd vs vt, e = .returned (.tuple #[.agg (hvA q.1.long q.1.kind q.1.ver vd vs vt q.1.spin q.1.phase q.1.num q.1.nl), .int .i64 (q.2.1 : Nat), .int .i64 (q.2.2.1 : Nat), .int .i64 q.2.2.2]) ∧
    w'.ownsRow w.heap.size 5 1 vd q.1.dst.length (q.1.dst.map bv) ∧ w'.ownsRow w.heap.size 5 1 vs q.1.src.length (q.1.src.map bv) ∧ w'.ownsRow w.heap.size 5 1 vt q.1.tok.length (q.1.tok.map bv) ∧
    (∀ i j, vd.ownBlock = some i → vt.ownBlock = some j → i ≠ j) ∧ Below w.heap.size w w'
set_option maxRecDepth 100000 in
set_option maxHeartbeats 4000000 in
theorem get_long_any (b : List UInt8) (hb : b.length ≤ 1000000) (vb : Value) (w : World) (hsb : Sl w vb b) (hl : (gByte b &&& 128 != 0) = true) :
    Calls Try.prog 38 #[vb] w (GetPost w (get b)) := by
  have hs0 := hsb
  obtain ⟨ao, cap, rfl, hc, hnn, hp⟩ := hsb
  clear hp hnn
  have hall := get_of (gAll_long hl)
  have hk : gKind b = (n8 (gByte b) / 16 % 4 : Nat) := rfl
  have hv256 : (rnum b 1 (0, 0)).2 < 256 := rnum_lt b 1 (0, 0)
  have hle1 : (rnum b 1 (0, 0)).1.1 ≤ b.length := rnum_le b 1 (0, 0) (Nat.zero_le _)
  have hP1 : rnum b 1 (0, 0) = ((rnum b 1 (0, 0)).1, n8 (gByte b)) := by unfold gByte; rw [n8_ofNat _ hv256]
  have hP2 : rfail (gByte b &&& 64 == 0) 5 (rnum b 1 (0, 0)).1 = gFirst b := rfl
  have hP3 : rfail (gByte b &&& 12 != 0) 5 (gFirst b) = gLong b := rfl
  have hle2 : (gFirst b).1 ≤ b.length := by unfold gFirst; rw [rfail_at]; exact hle1
  have hnl : gNl b = n8 (gByte b &&& 3) + 1 := rfl
  have hq3 := and3_lt (gByte b)
  generalize get b = qq at hall ⊢
  generalize gLong b = s3 at hall hP3
  generalize gFirst b = s2 at hP2 hP3 hle2
  generalize gNl b = nl at hall hnl
  generalize gKind b = k at hall hk
  generalize (rnum b 1 (0, 0)).1 = s1 at hP1 hP2 hle1
  generalize gByte b = f at hl hk hP1 hP2 hP3 hnl hq3
  have hnl4 : nl ≤ 4 := by omega
  have HALL := Lib.hid hall
  have P1 := Lib.hid hP1
  have P2 := Lib.hid hP2
  have P3 := Lib.hid hP3
  have HK := Lib.hid hk
  clear hall hP1 hP2 hP3 hk hv256 hle1
  have hf256 : ((n8 f : Nat) : Int) % 256 = (n8 f : Nat) := by have := n8_lt f; omega
  have q128 : (f &&& 128 != 0) = true := hl
  have q3 : ((n8 (f &&& 3) : Nat) : Int) + 1 = (nl : Int) := by omega
  have q3a : wrap64 ((n8 (f &&& 3) : Nat) : Int) = (nl : Int) - 1 := by unfold wrap64; omega
  have q3b : wrap64 (nl : Int) = (nl : Int) := by unfold wrap64; omega
  clear hl hnl hq3
  have HBLl := hb
  generalize hLL : b.length = L at hc hs0 ⊢
  have HL := Lib.hid hLL
  have HS0 := Lib.hid hs0
  have HC := Lib.hid hc
  clear hs0 hLL hc hb
  obtain ⟨J, hJ⟩ : ∃ J : Act → World → Prop, ∀ a w', J a w' ↔ (∃ (x : Nat × Value) (z : Nat → Value), a = ⟨(fun (x : Nat × Value) (z : Nat → Value) => #[z 0, z 1, .pointer (some ⟨w.heap.size, 0, none⟩), z 3, z 4, z 5, .pointer (some ⟨w.heap.size + 1, 0, none⟩), .int .u8 (n8 f : Nat), .pointer (some ⟨x.1, 0, none⟩), z 9, z 10, z 11, z 12, z 13, z 14, z 15, z 16, z 17, z 18, z 19, z 20, z 21, z 22, z 23, z 24, z 25, z 26, z 27, z 28, z 29, z 30, z 31, z 32, z 33, z 34, z 35, z 36, z 37, z 38, z 39, z 40, z 41, z 42, z 43, z 44, z 45, z 46, z 47, z 48, z 49, z 50, z 51, z 52, z 53, z 54, z 55, z 56, z 57, z 58, z 59, z 60, z 61, z 62, z 63, z 64, z 65, z 66, z 67, z 68, z 69, z 70, z 71, z 72, z 73, z 74, z 75, z 76, z 77, z 78]) x z, []⟩ ∧ (fun (x : Nat × Value) w' => row? w' w.heap.size = some (hvA false 0 0 (.slice none 0 0) (.slice none 0 0) (.slice none 0 0) false false 0 0) ∧ row? w' (w.heap.size + 1) = some (rd (.slice ao L cap) s2) ∧ w.heap.size + 2 ≤ x.1 ∧ row? w' x.1 = some (hvA true 0 0 (.slice none 0 0) (.slice none 0 0) (.slice none 0 0) false false 0 nl) ∧ Below w.heap.size w w') x w') := ⟨_, fun _ _ => Iff.rfl⟩
  have HJ := Lib.hid hJ
  clear hJ
  go_enter Try.func38, Try.ntmps38
  go_wp2_with fail
  refine wp_scope_jumps 0 J (fun _ _ => 0) rfl ?first ?pass
  case first =>
    go_wp2_with fail
    have hW1 : Below w.heap.size w ((w.alloc (.cells (hvA false 0 0 (.slice none 0 0) (.slice none 0 0) (.slice none 0 0) false false 0 0) 30)).alloc (.cells #[.slice ao L cap, .int .i64 0, .int .i64 0] 92)) := bel2 _ _ _
    have hR1 : row? ((w.alloc (.cells (hvA false 0 0 (.slice none 0 0) (.slice none 0 0) (.slice none 0 0) false false 0 0) 30)).alloc (.cells #[.slice ao L cap, .int .i64 0, .int .i64 0] 92)) (w.heap.size + 1) = some (rd (.slice ao L cap) (0, 0)) := row?_alloc_at _ _ _ _ (by simp)
    have hR0 : row? ((w.alloc (.cells (hvA false 0 0 (.slice none 0 0) (.slice none 0 0) (.slice none 0 0) false false 0 0) 30)).alloc (.cells #[.slice ao L cap, .int .i64 0, .int .i64 0] 92)) w.heap.size = some (hvA false 0 0 (.slice none 0 0) (.slice none 0 0) (.slice none 0 0) false false 0 0) := by rw [row?_alloc_past _ _ _ (by simp)]; exact row?_alloc_at _ _ _ _ rfl
    have hZ1 : (((w.alloc (.cells (hvA false 0 0 (.slice none 0 0) (.slice none 0 0) (.slice none 0 0) false false 0 0) 30)).alloc (.cells #[.slice ao L cap, .int .i64 0, .int .i64 0] 92))).heap.size = w.heap.size + 2 := by simp
    generalize ((w.alloc (.cells (hvA false 0 0 (.slice none 0 0) (.slice none 0 0) (.slice none 0 0) false false 0 0) 30)).alloc (.cells #[.slice ao L cap, .int .i64 0, .int .i64 0] 92)) = W1 at hW1 hR1 hR0 hZ1 ⊢
    refine (rnumber_any b w W1 (w.heap.size + 1) (.slice ao L cap) (0, 0) 1 HBLl (by decide) (Nat.zero_le _) HS0.out hW1 (by omega) hR1).mono ?_
    rintro e W2 ⟨rfl, m2, r2⟩
    rw [P1.out] at r2
    rw [P1.out]
    have hR0b := m2.row hR0 (by omega)
    have hW2 : Below w.heap.size w W2 := hW1.trans (m2.below (by omega) (by omega))
    have hZ2 := m2.size
    clear m2 hW1 hR1 hR0
    have H2 := Lib.hid r2
    have H0 := Lib.hid hR0b
    clear r2 hR0b
    go_wp2_with fail
    refine (fail_any W2 (w.heap.size + 1) (.slice ao L cap) s1 _ 5 H2.out).mono ?_
    rintro e W3 ⟨rfl, m3, r3⟩
    rw [P2.out] at r3
    have hR0c := m3.row H0.out (by omega)
    have hW3 : Below w.heap.size w W3 := hW2.trans (m3.below (by omega) (by omega))
    have hZ3 := m3.size
    have H3 := Lib.hid r3
    have H0c := Lib.hid hR0c
    clear m3 r3 hR0c H2 H0 hW2
    go_wp2_with fail
    have hW4 : Below w.heap.size w (W3.alloc (.cells (hvA true 0 0 (.slice none 0 0) (.slice none 0 0) (.slice none 0 0) false false 0 nl) 30)) := hW3.alloc (by omega) _
    have hA4 : row? (W3.alloc (.cells (hvA true 0 0 (.slice none 0 0) (.slice none 0 0) (.slice none 0 0) false false 0 nl) 30)) W3.heap.size = some (hvA true 0 0 (.slice none 0 0) (.slice none 0 0) (.slice none 0 0) false false 0 nl) := row?_alloc_at _ _ _ _ rfl
    have hR4 : row? (W3.alloc (.cells (hvA true 0 0 (.slice none 0 0) (.slice none 0 0) (.slice none 0 0) false false 0 nl) 30)) (w.heap.size + 1) = some (rd (.slice ao L cap) s2) := by rw [row?_alloc_past _ _ _ (by omega)]; exact H3.out
    have h04 : row? (W3.alloc (.cells (hvA true 0 0 (.slice none 0 0) (.slice none 0 0) (.slice none 0 0) false false 0 nl) 30)) w.heap.size = some (hvA false 0 0 (.slice none 0 0) (.slice none 0 0) (.slice none 0 0) false false 0 0) := by rw [row?_alloc_past _ _ _ (by omega)]; exact H0c.out
    have hZ4 : (W3.alloc (.cells (hvA true 0 0 (.slice none 0 0) (.slice none 0 0) (.slice none 0 0) false false 0 nl) 30)).heap.size = W3.heap.size + 1 := by simp
    generalize (W3.alloc (.cells (hvA true 0 0 (.slice none 0 0) (.slice none 0 0) (.slice none 0 0) false false 0 nl) 30)) = W4 at hW4 hA4 hR4 h04 hZ4 ⊢
    have hBh : w.heap.size + 2 ≤ W3.heap.size := by omega
    generalize W3.heap.size = Bh at hA4 hZ4 hBh ⊢
    clear H3 H0c hW3 hZ3 hZ1 hZ2

    have A4 := Lib.hid hA4
    have R4 := Lib.hid hR4
    have O4 := Lib.hid h04
    have c0 : W4.cell? ⟨Bh, 0, none⟩ = some (.bool true) := row?_cell hA4 0
    clear hA4 hR4 h04
    go_wp2_with fail
    refine wp_goto ?_
    show 0 = 0 ∧ J _ _
    exact ⟨rfl, J_of HJ.out (Bh, undef) (by kernel_rfl) ⟨O4.out, R4.out, hBh, A4.out, hW4⟩⟩
  case pass =>
    intro a wp hj
    obtain ⟨⟨Bh, vx⟩, z, rfl, r0, r1, hBh, r2, hbw⟩ := (HJ.out _ _).1 hj
    simp only [] at r0 r1 hBh r2 hbw ⊢
    clear hj HJ P1 P2 q3 q3a q3b q128 hf256
    have hlo := longs_any b w wp (w.heap.size + 1) Bh (.slice ao L cap) s2 f true 0 0 false false 0 nl hnl4 HBLl hle2 HS0.out hbw (by omega) (by omega) (by omega) r1 r2 k s3 HK.out P3.out
    have hall := HALL.out
    obtain ⟨q5, hq5⟩ : ∃ q, lEnd b k nl s3 = q := ⟨_, rfl⟩
    rw [hq5] at hlo hall
    generalize (aVer b k s3).2 = ver at hlo hall
    generalize (aDst b k s3).2 = d at hlo hall
    generalize (aSrc b k s3).2 = src at hlo hall
    generalize (aTok b k s3).2 = tok at hlo hall
    generalize (lNum b k nl s3).2 = num at hlo hall
    obtain ⟨s5, rest⟩ := q5
    simp only [] at hlo hall
    have HLO := Lib.hid hlo
    have HALL' := Lib.hid hall
    have R0 := Lib.hid r0
    have hwps := row?_lt r2
    clear hlo hall hq5 r1 r2 r0 HALL P3 HK
    go_wp2_with fail
    refine HLO.out.mono ?_
    rintro e wq ⟨vd, vs, vt, rfl, r1, r2, od, os, ot, hdis, m⟩
    have r0 := m.row R0.out (by omega) (by omega)
    have hb' : Below w.heap.size w wq := hbw.trans (m.below (by omega) (by omega) hbw.size)
    obtain ⟨av, cv, rfl, -, -, -⟩ := id (Own.sl od)
    obtain ⟨as_, cs, rfl, -, -, -⟩ := id (Own.sl os)
    obtain ⟨at_, ct, rfl, -, -, -⟩ := id (Own.sl ot)
    have hall := HALL'.out
    clear HLO R0 m hbw HALL'
    have c12 : wq.cell? ⟨w.heap.size + 1, 2, none⟩ = some (.int .i64 s5.2) := row?_cell r1 2
    have c11 : wq.cell? ⟨w.heap.size + 1, 1, none⟩ = some (.int .i64 (s5.1 : Nat)) := row?_cell r1 1
    have R0 := Lib.hid r0
    have R1 := Lib.hid r1
    have R2 := Lib.hid r2
    have OD := Lib.hid od
    have OS := Lib.hid os
    have OT := Lib.hid ot
    have HD := Lib.hid hdis
    have HB' := Lib.hid hb'
    have HALL := Lib.hid hall
    clear r0 r1 od os ot hdis hb' hall
    by_cases he : s5.2 = 0
    · rw [he] at c12
      have hall := HALL.out
      rw [if_neg (by simpa using he)] at hall
      have HQ := Lib.hid hall
      clear hall HALL he c11
      go_wp2_with fail
      refine wp_label ?_
      go_wp2_with fail
      have r1s : row? (wq.setRow w.heap.size (hvA true k ver (.slice av d.length cv) (.slice as_ src.length cs) (.slice at_ tok.length ct) false false num nl)) (w.heap.size + 1) = some (rd (.slice ao L cap) s5) := by rw [row?_setRow_ne _ _ _ _ (by omega)]; exact R1.out
      have c13 : (wq.setRow w.heap.size (hvA true k ver (.slice av d.length cv) (.slice as_ src.length cs) (.slice at_ tok.length ct) false false num nl)).cell? ⟨w.heap.size + 1, 1, none⟩ = some (.int .i64 (s5.1 : Nat)) := row?_cell r1s 1
      have c14 : wq.cell? ⟨w.heap.size + 1, 1, none⟩ = some (.int .i64 (s5.1 : Nat)) := row?_cell R1.out 1
      clear r1s
      have r0 := R0.out
      go_region
      all_goals (go_wp2_with fail)
      simp only [Exit.jump]
      refine bodyPost_ret (results_row4 AgH rfl _ _ w.heap.size (hvA true k ver (.slice av d.length cv) (.slice as_ src.length cs) (.slice at_ tok.length ct) false false num nl) rfl ?_ (hvA_size ..)) rfl ?_
      · rw [row?_drew]; exact row?_setRow_eq R0.out
      · rw [HQ.out]
        have mm : Mut w.heap.size wq ((wq.setRow w.heap.size (hvA true k ver (.slice av d.length cv) (.slice as_ src.length cs) (.slice at_ tok.length ct) false false num nl)).drew) := ((Mut.refl _ _).setRow _).drew
        have hbs := HB'.out.size
        exact ⟨_, _, _, rfl, own_lower (mm.own OD.out (by omega)) (by omega), own_lower (mm.own OS.out (by omega)) (by omega), own_lower (mm.own OT.out (by omega)) (by omega), HD.out, HB'.out.trans (mm.below (Nat.le_refl _) hbs)⟩
    · have he' : (s5.2 != 0) = true := by simpa using he
      have hall := HALL.out
      rw [if_pos he] at hall
      have HQ := Lib.hid hall
      clear hall HALL
      go_wp2_with fail
      refine wp_label ?_
      go_wp2_with fail
      have r1s : row? (wq.setRow w.heap.size (hvA false 0 0 (.slice none 0 0) (.slice none 0 0) (.slice none 0 0) false false 0 0)) (w.heap.size + 1) = some (rd (.slice ao L cap) s5) := by rw [row?_setRow_ne _ _ _ _ (by omega)]; exact R1.out
      have c13 : (wq.setRow w.heap.size (hvA false 0 0 (.slice none 0 0) (.slice none 0 0) (.slice none 0 0) false false 0 0)).cell? ⟨w.heap.size + 1, 2, none⟩ = some (.int .i64 s5.2) := row?_cell r1s 2
      clear r1s
      have r0 := R0.out
      go_region
      all_goals (go_wp2_with fail)
      simp only [Exit.jump]
      refine bodyPost_ret (results_row4 AgH rfl _ _ w.heap.size (hvA false 0 0 (.slice none 0 0) (.slice none 0 0) (.slice none 0 0) false false 0 0) rfl ?_ (hvA_size ..)) rfl ?_
      · rw [row?_drew]; exact row?_setRow_eq R0.out
      · rw [HQ.out]
        have mm : Mut w.heap.size wq ((wq.setRow w.heap.size (hvA false 0 0 (.slice none 0 0) (.slice none 0 0) (.slice none 0 0) false false 0 0)).drew) := ((Mut.refl _ _).setRow _).drew
        have hbs := HB'.out.size
        exact ⟨_, _, _, rfl, World.ownsRow_nil _ _ _ _, World.ownsRow_nil _ _ _ _, World.ownsRow_nil _ _ _ _, fun i j hi => by simp [Value.ownBlock] at hi, HB'.out.trans (mm.below (Nat.le_refl _) hbs)⟩
end Go.Proofs.Ytjlpppnpdgenfaa
