/- The walk of package header's Put at a long header. -/
import Derived.Test.YtjlpppnpdgenfaaMvaHdrW4
import Derived.Test.YtjlpppnpdgenfaaMvaHdrP
import Derived.Test.YtjlpppnpdgenfaaMvaVarW
import Derived.Test.YtjlpppnpdgenfaaMvaLibY
namespace Hdr
open Go Go.Rw
/-- A long header's first byte, and its bytes. -/
def longF (kind : Int) (nl : Nat) : UInt8 := 128 ||| 64 ||| UInt8.ofInt ((nl : Int) - 1) ||| UInt8.ofInt (kind % 256 * 16 % 256)
def longTok (kind : Int) (tok : List UInt8) : List UInt8 := if kind = 0 then vin tok.length (vlen tok.length) ++ tok else []
def longB (kind : Int) (ver : Nat) (dst src tok : List UInt8) (num nl rest : Nat) : List UInt8 :=
  [longF kind nl] ++ be ver 4 ++ [UInt8.ofNat dst.length] ++ dst ++ [UInt8.ofNat src.length] ++ src ++ longTok kind tok ++ vin (rest + nl) 2 ++ be num nl
end Hdr
namespace Go.Proofs.Ytjlpppnpdgenfaa
open Go.RowKit Go.Rw Hdr
attribute [local go_sem ↓] ldH stH alH shift_shl8 shift_shr8 shift_shl64 shift_shr64
attribute [local go_sem] rldH rstH ralH setRow_alloc_at setRow_alloc_past setRow_drew

set_option maxRecDepth 100000 in
set_option maxHeartbeats 4000000 in
theorem put_long (kind : Int) (ver : Nat) (dst src tok : List UInt8) (vd vs vt : Value) (num nl rest : Nat) (hm : mayN true kind ver dst.length src.length tok.length false false num nl = true) (hv : ver < 4294967296) (hr1 : (rest : Int) ≤ 16383 - nl) (w : World) (hsd : Sl w vd dst) (hss : Sl w vs src) (hst : Sl w vt tok) :
    Calls Try.prog 28 #[.agg (hvA true kind ver vd vs vt false false num nl), .int .i64 (rest : Nat)] w fun e w' => ∃ v, e = .returned (.tuple #[v, .int .i64 0]) ∧ w'.ownsRow w.heap.size 5 1 v (longB kind ver dst src tok num nl rest).length ((longB kind ver dst src tok num nl rest).map bv) ∧ Below w.heap.size w w' := by
  obtain ⟨ad, cd, rfl, -, -, -⟩ := id hsd
  obtain ⟨as_, cs, rfl, -, -, -⟩ := id hss
  obtain ⟨at_, ct, rfl, -, -, -⟩ := id hst
  obtain ⟨i0, hi, hz0, hz1, hz2⟩ := info_parts info8
  have hmay := fun W => may_any true kind ver ad as_ at_ dst.length src.length tok.length cd cs ct false false num nl W
  rw [hm] at hmay
  have hfacts : (1 ≤ nl ∧ nl ≤ 4) ∧ num ≤ 4611686018427387903 ∧ dst.length = 8 ∧ (kind = 0 ∨ (kind = 2 ∧ tok.length = 0)) ∧ src.length ≤ 20 ∧ tok.length ≤ 100 := by
    unfold mayN at hm
    split at hm
    · cases hm
    · rw [if_neg (by decide)] at hm
      have := of_decide_eq_true hm
      refine ⟨by omega, by omega, by omega, this.1, this.2.1, this.2.2.1⟩
  obtain ⟨⟨h1, h4⟩, hn, hd8, hkind, hs20, ht100⟩ := hfacts
  obtain ⟨F, hF⟩ : ∃ F, longF kind nl = F := ⟨_, rfl⟩
  obtain ⟨Z, hZ⟩ : ∃ Z, longB kind ver dst src tok num nl rest = Z := ⟨_, rfl⟩
  rw [hZ]
  unfold longB at hZ
  rw [hF] at hZ
  unfold longF at hF
  have g2 : ¬ (16383 - (nl : Int) < (rest : Nat)) := by omega
  have HM := Lib.hid hmay
  have HF := Lib.hid hF
  have HZ := Lib.hid hZ
  have HN := Lib.hid hn
  have HV := Lib.hid hv
  have HSD := Lib.hid hsd
  have HSS := Lib.hid hss
  have HST := Lib.hid hst
  have HK := Lib.hid hkind
  have HL := Lib.hid (And.intro hd8 (And.intro hs20 ht100))
  clear hm hmay hF hZ hn hv hr1 hsd hss hst hkind hd8 hs20 ht100
  unfold hvA at HM ⊢
  go_enter Try.func28, Try.ntmps28
  go_wp2_with fail
  refine (HM.out _).mono ?_
  rintro e w1 ⟨rfl, hb1⟩
  have r1 : row? w1 w.heap.size = some (hvA true kind ver (.slice ad dst.length cd) (.slice as_ src.length cs) (.slice at_ tok.length ct) false false num nl) := Rg.stable_row hb1 (row?_alloc_at _ _ _ _ rfl)
  have b1 : Below w.heap.size w w1 := ((Below.refl w.heap.size w).alloc (Nat.le_refl _) _).trans (hb1.mono (by simp))
  have c0 : w1.cell? ⟨w.heap.size, 0, none⟩ = some (.bool true) := row?_cell r1 0
  have c9 : w1.cell? ⟨w.heap.size, 9, none⟩ = some (.int .i64 (nl : Nat)) := row?_cell r1 9
  have R1 := Lib.hid r1
  clear r1 hb1 HM
  go_wp2_with fail
  refine Rg.wp_region_plan (Rg.row [(0, 3), (1, 0), (4, 3), (5, 0), (6, 3), (7, 3), (2, 1), (3, 3), (8, 3), (9, 3)] []) [] (by kernel_rfl) (by kernel_rfl) ?_
  simp only [Rg.row, Rg.PT.map, List.map_nil, List.getD_cons_zero, List.getD_cons_succ]
  go_wp2_with (first
    | ((with_reducible refine Rg.plan_pure ?_ ?_ ?_); kernel_rfl; kernel_rfl; intro _ _)
    | ((with_reducible refine Rg.plan_take ?_ ?_ ?_); kernel_rfl; kernel_rfl; intro _ _)
    | ((with_reducible refine Rg.plan_keep ?_ ?_); kernel_rfl; intro K hK)
    | (refine hK _ _ (Rg.Keep.refl _) ?_; clear hK)
    | (refine hK _ _ (Rg.Keep.of_below (by assumption)) ?_; clear hK)
    | ((with_reducible refine Rg.plan_skip ?_ ?_); kernel_rfl)
    | (with_reducible refine Rg.plan_done ?_)
    | (with_reducible refine Rg.calm_normal ?_))
  refine (flag_any true 128 _).mono ?_
  rintro e w' ⟨rfl, rfl⟩
  rw [if_pos rfl]
  have c1 : w1.cell? ⟨w.heap.size, 1, none⟩ = some (.int .i64 kind) := row?_cell R1.out 1
  have c2 : w1.cell? ⟨w.heap.size, 2, none⟩ = some (.int .u32 (ver : Nat)) := row?_cell R1.out 2
  have hlt1 : w.heap.size < w1.heap.size := row?_lt R1.out
  have hne1 : w.heap.size ≠ w1.heap.size := Nat.ne_of_lt hlt1
  have hvw : IntKind.u64.wrap ((ver : Nat) : Int) = (ver : Nat) := by have := HV.out; simp only [IntKind.wrap_u64]; omega
  go_wp2_with (first
    | ((with_reducible refine Rg.plan_pure ?_ ?_ ?_); kernel_rfl; kernel_rfl; intro _ _)
    | ((with_reducible refine Rg.plan_take ?_ ?_ ?_); kernel_rfl; kernel_rfl; intro _ _)
    | ((with_reducible refine Rg.plan_keep ?_ ?_); kernel_rfl; intro K hK)
    | (refine hK _ _ (Rg.Keep.refl _) ?_; clear hK)
    | (refine hK _ _ (Rg.Keep.of_below (by assumption)) ?_; clear hK)
    | ((with_reducible refine Rg.plan_skip ?_ ?_); kernel_rfl)
    | (with_reducible refine Rg.plan_done ?_)
    | (with_reducible refine Rg.calm_normal ?_))
  have howA : (w1.alloc (.cells #[.int .u8 (n8 (128 ||| 64 ||| UInt8.ofInt ((nl : Int) - 1) ||| UInt8.ofInt (kind % 256 * 16 % 256)) : Nat)] 5)).drew.ownsRow (w.heap.size + 1) 5 1 (.slice (some ⟨w1.heap.size, 0, none⟩) 1 1) 1 ([128 ||| 64 ||| UInt8.ofInt ((nl : Int) - 1) ||| UInt8.ofInt (kind % 256 * 16 % 256)].map bv) := (World.ownsRow_lit (base := w.heap.size + 1) w1 #[.int .u8 (n8 (128 ||| 64 ||| UInt8.ofInt ((nl : Int) - 1) ||| UInt8.ofInt (kind % 256 * 16 % 256)) : Nat)] 1 (by omega) (by decide) (by simp)).drew
  have bA : Below w.heap.size w (w1.alloc (.cells #[.int .u8 (n8 (128 ||| 64 ||| UInt8.ofInt ((nl : Int) - 1) ||| UInt8.ofInt (kind % 256 * 16 % 256)) : Nat)] 5)).drew := (b1.alloc b1.size _).drew
  have rA : row? (w1.alloc (.cells #[.int .u8 (n8 (128 ||| 64 ||| UInt8.ofInt ((nl : Int) - 1) ||| UInt8.ofInt (kind % 256 * 16 % 256)) : Nat)] 5)).drew w.heap.size = some (hvA true kind ver (.slice ad dst.length cd) (.slice as_ src.length cs) (.slice at_ tok.length ct) false false num nl) := by rw [row?_drew]; exact Rg.stable_row ((Below.refl _ _).alloc (Nat.le_refl _) _) R1.out
  have sA : w.heap.size + 1 ≤ (w1.alloc (.cells #[.int .u8 (n8 (128 ||| 64 ||| UInt8.ofInt ((nl : Int) - 1) ||| UInt8.ofInt (kind % 256 * 16 % 256)) : Nat)] 5)).drew.heap.size := by have := row?_lt rA; omega
  rw [HF.out] at howA bA rA sA ⊢
  generalize (w1.alloc (.cells #[.int .u8 (n8 F : Nat)] 5)).drew = wA at howA bA rA sA ⊢
  have RA := Lib.hid rA
  have HOA := Lib.hid howA
  clear rA howA R1 c0 c1 c2 c9 hlt1 hne1 hvw b1
  refine (number_any [F] ver 4 (by simp) (by have := HV.out; omega) (by decide) _ (w.heap.size + 1) wA sA HOA.out).mono ?_
  rintro e w2 ⟨v2, rfl, own2, b2⟩
  have bW2 : Below w.heap.size w w2 := bA.trans (b2.mono (Nat.le_succ _))
  have r2 : row? w2 w.heap.size = some (hvA true kind ver (.slice ad dst.length cd) (.slice as_ src.length cs) (.slice at_ tok.length ct) false false num nl) := Rg.row_below b2 RA.out (by omega)
  have s2 : w.heap.size + 1 ≤ w2.heap.size := by have := row?_lt r2; omega
  have O2 := Lib.hid own2
  have R2 := Lib.hid r2
  clear own2 r2 RA HOA b2 bA sA
  have c3 : w2.cell? ⟨w.heap.size, 3, none⟩ = some (.slice ad dst.length cd) := row?_cell R2.out 3
  have hmod : ((dst.length : Nat) : Int) % 256 = (dst.length : Nat) := by have := HL.out.1; omega
  go_wp2_with fail
  refine Rg.wp_region_inv [(0, 3), (1, 3), (2, 0), (3, 0), (4, 3), (7, 3)] [⟨5, 70, [], false, fun _ _ => True⟩, ⟨6, 71, [5], false, fun _ _ => True⟩, ⟨8, 73, [], false, fun _ _ => True⟩, ⟨9, 74, [6, 8], false, fun _ _ => True⟩] [(5, 70, []), (6, 71, [5]), (8, 73, []), (9, 74, [6, 8])] [6, 9, 10] [10] (by kernel_rfl) (by kernel_rfl) rfl (by kernel_rfl) ?_
  simp only [Rg.row, Rg.PT.map, List.getD_cons_zero, List.getD_cons_succ]
  go_wp2_with (first
    | ((with_reducible refine Rg.plan_pure ?_ ?_ ?_); kernel_rfl; kernel_rfl; intro _ _)
    | ((with_reducible refine Rg.plan_take ?_ ?_ ?_); kernel_rfl; kernel_rfl; intro _ _)
    | ((with_reducible refine Rg.plan_keep ?_ ?_); kernel_rfl; intro K hK)
    | (refine hK _ _ (Rg.Keep.refl _) ?_; clear hK)
    | (refine hK _ _ (Rg.Keep.of_below (by assumption)) ?_; clear hK)
    | ((with_reducible refine Rg.plan_skip ?_ ?_); kernel_rfl)
    | (with_reducible refine Rg.plan_done ?_)
    | (with_reducible refine Rg.calm_normal ?_))
  have o2d : w2.drew.ownsRow (w.heap.size + 1) 5 1 v2 ([F] ++ be ver 4).length (([F] ++ be ver 4).map bv) := O2.out.drew
  have hdn : n8 (UInt8.ofNat dst.length) = dst.length := n8_ofNat _ (by have := HL.out.1; omega)
  have hsdB : ∀ w', Below (w.heap.size + 1) w2.drew w' → Sl w' (.slice ad dst.length cd) dst := fun w' h => HSD.out.below (bW2.drew.trans (h.mono (Nat.le_succ _)))
  refine Rg.phase_app2 (w0 := w2.drew) 5 6 8 9 70 71 73 74 (fun _ _ => True) (fun _ _ => True) (fun _ _ => True) (fun _ _ => True) (by decide) (w.heap.size + 1) s2 v2 (.slice ad dst.length cd) ([F] ++ be ver 4) dst (UInt8.ofNat dst.length) (.tmp 65) (.tmp 70) (.tmp 71) (.tmp 73) Try.underlying27 hi hz0 hz1 hz2 o2d hsdB (by have := HL.out.1; simp [be_length]; omega) (by kernel_rfl) (by kernel_rfl) (by kernel_rfl) (by kernel_rfl) (fun us => by kernel_rfl) (fun us => by kernel_rfl) (fun us => by kernel_rfl) (fun us => by kernel_rfl) ?_ ?_ ?_ rfl rfl
  · intro us wx K hK
    rw [hdn] at hK
    exact Rg.exec_value (v := .slice (some ⟨wx.heap.size, 0, none⟩) 1 1) (w' := wx.alloc (.cells #[.int .u8 (dst.length : Nat)] 5)) (by simp [go_sem, execOp, Rg.puts]) hK
  · intro us wx K hB hK
    have r := Rg.row_below hB ((row?_drew _ _).trans R2.out) (by omega)
    have c : wx.cell? ⟨w.heap.size, 3, none⟩ = some (.slice ad dst.length cd) := row?_cell r 3
    exact Rg.exec_value (v := .slice ad dst.length cd) (w' := wx) (by simp [go_sem, execOp, Rg.puts, c]) hK
  · intro us w3 hB o3
    have bW3 : Below w.heap.size w w3 := bW2.drew.trans (hB.mono (Nat.le_succ _))
    have r3 : row? w3 w.heap.size = some (hvA true kind ver (.slice ad dst.length cd) (.slice as_ src.length cs) (.slice at_ tok.length ct) false false num nl) := Rg.row_below hB ((row?_drew _ _).trans R2.out) (by omega)
    have s3 : w.heap.size + 1 ≤ w3.heap.size := by have := row?_lt r3; omega
    simp only [Rg.puts, List.map_cons, List.map_nil]
    generalize us 5 = x5
    generalize us 6 = x6
    generalize us 8 = x8
    generalize us 9 = v3 at *
    have R3 := Lib.hid r3
    have O3 := Lib.hid o3
    clear hB r3 o3 hsdB o2d R2 O2 s2 c3 bW2 hmod hdn
    clear us
    have c4 : w3.cell? ⟨w.heap.size, 4, none⟩ = some (.slice as_ src.length cs) := row?_cell R3.out 4
    have hmod : ((src.length : Nat) : Int) % 256 = (src.length : Nat) := by have := HL.out.2.1; omega
    go_wp2_with (first
      | ((with_reducible refine Rg.plan_pure ?_ ?_ ?_); kernel_rfl; kernel_rfl; intro _ _)
      | ((with_reducible refine Rg.plan_take ?_ ?_ ?_); kernel_rfl; kernel_rfl; intro _ _)
      | ((with_reducible refine Rg.plan_keep ?_ ?_); kernel_rfl; intro K hK)
      | (refine hK _ _ (Rg.Keep.refl _) ?_; clear hK)
      | (refine hK _ _ (Rg.Keep.of_below (by assumption)) ?_; clear hK)
      | ((with_reducible refine Rg.plan_skip ?_ ?_); kernel_rfl)
      | (with_reducible refine Rg.plan_done ?_)
      | (with_reducible refine Rg.calm_normal ?_))
    obtain ⟨L1, hL1⟩ : ∃ L1, [F] ++ be ver 4 ++ [UInt8.ofNat dst.length] ++ dst = L1 := ⟨_, rfl⟩
    have hL1l : L1.length = 14 := by rw [← hL1]; have := HL.out.1; simp [be_length, this]
    have o3 := O3.out
    rw [hL1] at o3
    have HL1 := Lib.hid hL1
    have HL1l := Lib.hid hL1l
    clear O3 hL1 hL1l
    refine Rg.wp_region_inv [(0, 3), (1, 3), (2, 0), (3, 0), (4, 3), (7, 3)] [⟨5, 80, [], false, fun _ _ => True⟩, ⟨6, 81, [5], false, fun _ _ => True⟩, ⟨8, 83, [], false, fun _ _ => True⟩, ⟨9, 84, [6, 8], false, fun _ _ => True⟩] [(5, 80, []), (6, 81, [5]), (8, 83, []), (9, 84, [6, 8])] [6, 9, 10] [10] (by kernel_rfl) (by kernel_rfl) rfl (by kernel_rfl) ?_
    simp only [Rg.row, Rg.PT.map, List.getD_cons_zero, List.getD_cons_succ]
    go_wp2_with (first
      | ((with_reducible refine Rg.plan_pure ?_ ?_ ?_); kernel_rfl; kernel_rfl; intro _ _)
      | ((with_reducible refine Rg.plan_take ?_ ?_ ?_); kernel_rfl; kernel_rfl; intro _ _)
      | ((with_reducible refine Rg.plan_keep ?_ ?_); kernel_rfl; intro K hK)
      | (refine hK _ _ (Rg.Keep.refl _) ?_; clear hK)
      | (refine hK _ _ (Rg.Keep.of_below (by assumption)) ?_; clear hK)
      | ((with_reducible refine Rg.plan_skip ?_ ?_); kernel_rfl)
      | (with_reducible refine Rg.plan_done ?_)
      | (with_reducible refine Rg.calm_normal ?_))
    have o3d : w3.drew.ownsRow (w.heap.size + 1) 5 1 v3 L1.length (L1.map bv) := o3.drew
    have hsn : n8 (UInt8.ofNat src.length) = src.length := n8_ofNat _ (by have := HL.out.2.1; omega)
    have hssB : ∀ w', Below (w.heap.size + 1) w3.drew w' → Sl w' (.slice as_ src.length cs) src := fun w' h => HSS.out.below (bW3.drew.trans (h.mono (Nat.le_succ _)))
    refine Rg.phase_app2 (w0 := w3.drew) 5 6 8 9 80 81 83 84 (fun _ _ => True) (fun _ _ => True) (fun _ _ => True) (fun _ _ => True) (by decide) (w.heap.size + 1) s3 v3 (.slice as_ src.length cs) L1 src (UInt8.ofNat src.length) (.tmp 75) (.tmp 80) (.tmp 81) (.tmp 83) Try.underlying27 hi hz0 hz1 hz2 o3d hssB (by have := HL.out.2.1; have := HL1l.out; omega) (by kernel_rfl) (by kernel_rfl) (by kernel_rfl) (by kernel_rfl) (fun us => by kernel_rfl) (fun us => by kernel_rfl) (fun us => by kernel_rfl) (fun us => by kernel_rfl) ?_ ?_ ?_ rfl rfl
    · intro us wx K hK
      rw [hsn] at hK
      exact Rg.exec_value (v := .slice (some ⟨wx.heap.size, 0, none⟩) 1 1) (w' := wx.alloc (.cells #[.int .u8 (src.length : Nat)] 5)) (by simp [go_sem, execOp, Rg.puts]) hK
    · intro us wx K hB hK
      have r := Rg.row_below hB ((row?_drew _ _).trans R3.out) (by omega)
      have c : wx.cell? ⟨w.heap.size, 4, none⟩ = some (.slice as_ src.length cs) := row?_cell r 4
      exact Rg.exec_value (v := .slice as_ src.length cs) (w' := wx) (by simp [go_sem, execOp, Rg.puts, c]) hK
    · intro us w4 hB o4
      have bW4 : Below w.heap.size w w4 := bW3.drew.trans (hB.mono (Nat.le_succ _))
      have r4 : row? w4 w.heap.size = some (hvA true kind ver (.slice ad dst.length cd) (.slice as_ src.length cs) (.slice at_ tok.length ct) false false num nl) := Rg.row_below hB ((row?_drew _ _).trans R3.out) (by omega)
      have s4 : w.heap.size + 1 ≤ w4.heap.size := by have := row?_lt r4; omega
      simp only [Rg.puts, List.map_cons, List.map_nil]
      generalize us 5 = y5
      generalize us 6 = y6
      generalize us 8 = y8
      generalize us 9 = v4 at *
      obtain ⟨L2, hL2⟩ : ∃ L2, L1 ++ [UInt8.ofNat src.length] ++ src = L2 := ⟨_, rfl⟩
      have hL2l : L2.length ≤ 35 := by rw [← hL2]; have := HL.out.2.1; have := HL1l.out; simp; omega
      rw [hL2] at o4
      have HL2 := Lib.hid hL2
      have HL2l := Lib.hid hL2l
      have R4 := Lib.hid r4
      have O4 := Lib.hid o4
      clear hB r4 o4 hssB o3d o3 R3 s3 c4 bW3 hmod hsn hL2 hL2l
      clear us
      have c41 : w4.cell? ⟨w.heap.size, 1, none⟩ = some (.int .i64 kind) := row?_cell R4.out 1
      have c45 : w4.cell? ⟨w.heap.size, 5, none⟩ = some (.slice at_ tok.length ct) := row?_cell R4.out 5
      have htw : IntKind.u64.wrap ((tok.length : Nat) : Int) = (tok.length : Nat) := by have := HL.out.2.2; simp only [IntKind.wrap_u64]; omega
      have hcase : (kind == 0) = true ∧ longTok kind tok = vin tok.length (vlen tok.length) ++ tok ∨ (kind == 0) = false ∧ longTok kind tok = [] := by
        by_cases hk : kind = 0
        · exact .inl ⟨by simp [hk], if_pos hk⟩
        · exact .inr ⟨by simp [hk], if_neg hk⟩
      rcases hcase with ⟨hk0, hlt⟩ | ⟨hk0, hlt⟩
      · have HLT := Lib.hid hlt
        clear hlt
        go_wp2_with (first
          | ((with_reducible refine Rg.plan_pure ?_ ?_ ?_); kernel_rfl; kernel_rfl; intro _ _)
          | ((with_reducible refine Rg.plan_take ?_ ?_ ?_); kernel_rfl; kernel_rfl; intro _ _)
          | ((with_reducible refine Rg.plan_keep ?_ ?_); kernel_rfl; intro K hK)
          | (refine hK _ _ (Rg.Keep.refl _) ?_; clear hK)
          | (refine hK _ _ (Rg.Keep.of_below (by assumption)) ?_; clear hK)
          | ((with_reducible refine Rg.plan_skip ?_ ?_); kernel_rfl)
          | (with_reducible refine Rg.plan_done ?_)
          | (with_reducible refine Rg.calm_normal ?_))
        refine Rg.wp_region_plan (Rg.row [(0, 3), (1, 3), (2, 0), (3, 0), (4, 3), (6, 3), (7, 0), (5, 1)] [8, 9]) [8, 9] (by kernel_rfl) (by kernel_rfl) ?_
        simp only [Rg.row, Rg.PT.map, List.map_cons, List.map_nil, List.getD_cons_zero, List.getD_cons_succ]
        go_wp2_with (first
          | ((with_reducible refine Rg.plan_pure ?_ ?_ ?_); kernel_rfl; kernel_rfl; intro _ _)
          | ((with_reducible refine Rg.plan_take ?_ ?_ ?_); kernel_rfl; kernel_rfl; intro _ _)
          | ((with_reducible refine Rg.plan_keep ?_ ?_); kernel_rfl; intro K hK)
          | (refine hK _ _ (Rg.Keep.refl _) ?_; clear hK)
          | (refine hK _ _ (Rg.Keep.of_below (by assumption)) ?_; clear hK)
          | ((with_reducible refine Rg.plan_skip ?_ ?_); kernel_rfl)
          | (with_reducible refine Rg.plan_done ?_)
          | (with_reducible refine Rg.calm_normal ?_))
        refine (vput_any L2 tok.length (by have := HL2l.out; omega) (by have := HL.out.2.2; omega) v4 w4.drew (Own.sl O4.out.drew)).mono ?_
        rintro e w5 ⟨v5, rfl, o5, b5⟩
        refine hK _ _ (Rg.Keep.of_below b5) ?_
        clear hK c41 c45 htw
        have o5' : w5.ownsRow (w.heap.size + 1) 5 1 v5 (L2 ++ vin tok.length (vlen tok.length)).length ((L2 ++ vin tok.length (vlen tok.length)).map bv) := own_lower o5 s4
        have bW5 : Below w.heap.size w w5 := bW4.drew.trans (b5.mono (by have := s4; simp; omega))
        have r5 : row? w5 w.heap.size = some (hvA true kind ver (.slice ad dst.length cd) (.slice as_ src.length cs) (.slice at_ tok.length ct) false false num nl) := Rg.stable_row b5 ((row?_drew _ _).trans R4.out)
        have s5 : w.heap.size + 1 ≤ w5.heap.size := by have := row?_lt r5; omega
        have hst5 : Sl w5 (.slice at_ tok.length ct) tok := HST.out.below bW5
        have hl5 : (L2 ++ vin tok.length (vlen tok.length)).length + tok.length ≤ 2000000 := by have := HL2l.out; have := HL.out.2.2; have := vlen_le tok.length; simp [vin_length]; omega
        have O5 := Lib.hid o5'
        have R5 := Lib.hid r5
        have S5 := Lib.hid hst5
        clear o5 o5' b5 r5 hst5 O4 R4 bW4 s4
        go_wp2_with (first
          | (at_builtin; refine app_sl rfl _ _ 27 rfl (w.heap.size + 1) 5 i0 Try.underlying27 hi hz0 hz1 hz2 v5 (L2 ++ vin tok.length (vlen tok.length)) rfl O5.out _ tok rfl S5.out hl5 s5 ?_)
          | ((with_reducible refine Rg.plan_pure ?_ ?_ ?_); kernel_rfl; kernel_rfl; intro _ _)
          | ((with_reducible refine Rg.plan_take ?_ ?_ ?_); kernel_rfl; kernel_rfl; intro _ _)
          | ((with_reducible refine Rg.plan_keep ?_ ?_); kernel_rfl; intro K hK)
          | (refine hK _ _ (Rg.Keep.refl _) ?_; clear hK)
          | (refine hK _ _ (Rg.Keep.of_below (by assumption)) ?_; clear hK)
          | ((with_reducible refine Rg.plan_skip ?_ ?_); kernel_rfl)
          | (with_reducible refine Rg.plan_done ?_)
          | (with_reducible refine Rg.calm_normal ?_))
        intro v6 w6 o6 hg6
        have bW6 : Below w.heap.size w w6 := bW5.grown hg6 bW5.size (fun k hk => by have := (O5.out.lt k hk).1; omega)
        have r6 : row? w6 w.heap.size = some (hvA true kind ver (.slice ad dst.length cd) (.slice as_ src.length cs) (.slice at_ tok.length ct) false false num nl) := row_grown hg6 R5.out (fun h => by have := (O5.out.lt _ h.symm).1; omega)
        have hZ := HZ.out
        rw [HLT.out] at hZ
        have hZ' : (L2 ++ vin tok.length (vlen tok.length) ++ tok) ++ vin (rest + nl) 2 ++ be num nl = Z := by rw [← hZ, ← HL2.out, ← HL1.out]; simp
        have hl6 : (L2 ++ vin tok.length (vlen tok.length) ++ tok).length ≤ 1000 := by have := HL2l.out; have := HL.out.2.2; have := vlen_le tok.length; simp [vin_length]; omega
        have o6' : w6.ownsRow (w.heap.size + 1) 5 1 v6 (L2 ++ vin tok.length (vlen tok.length) ++ tok).length ((L2 ++ vin tok.length (vlen tok.length) ++ tok).map bv) := by simpa using o6
        clear o6
        generalize L2 ++ vin tok.length (vlen tok.length) ++ tok = L3 at o6' hZ' hl6
        have OX := Lib.hid o6'
        have RX := Lib.hid r6
        have ZX := Lib.hid hZ'
        have LX := Lib.hid hl6
        clear o6' r6 hZ hZ' hl6 hg6 O5 R5 S5 bW5 s5 hl5 HZ HLT HL1 HL2 HL2l HL1l
        have c9 : w6.cell? ⟨w.heap.size, 9, none⟩ = some (.int .i64 (nl : Nat)) := row?_cell RX.out 9
        go_wp2_with (first
          | ((with_reducible refine Rg.plan_pure ?_ ?_ ?_); kernel_rfl; kernel_rfl; intro _ _)
          | ((with_reducible refine Rg.plan_take ?_ ?_ ?_); kernel_rfl; kernel_rfl; intro _ _)
          | ((with_reducible refine Rg.plan_keep ?_ ?_); kernel_rfl; intro K hK)
          | (refine hK _ _ (Rg.Keep.refl _) ?_; clear hK)
          | (refine hK _ _ (Rg.Keep.of_below (by assumption)) ?_; clear hK)
          | ((with_reducible refine Rg.plan_skip ?_ ?_); kernel_rfl)
          | (with_reducible refine Rg.plan_done ?_)
          | (with_reducible refine Rg.calm_normal ?_))
        have hpl := vputlen_any L3 (rest + nl) 2 (by have := LX.out; omega) (by omega) (by omega) v6 w6 (Own.sl OX.out)
        rw [Int.natCast_add] at hpl
        refine hpl.mono ?_
        rintro e w8 ⟨v8, rfl, o8, b8⟩
        have bX := bW6
        have r8 : row? w8 w.heap.size = some (hvA true kind ver (.slice ad dst.length cd) (.slice as_ src.length cs) (.slice at_ tok.length ct) false false num nl) := Rg.stable_row b8 RX.out
        have bW8 : Below w.heap.size w w8 := bX.trans (b8.mono bX.size)
        have o8' : w8.ownsRow w.heap.size 5 1 v8 (L3 ++ vin (rest + nl) 2).length ((L3 ++ vin (rest + nl) 2).map bv) := own_lower o8 bX.size
        have hl8 : (L3 ++ vin (rest + nl) 2).length ≤ 2000 := by have := LX.out; simp [vin_length]; omega
        have c98 : w8.cell? ⟨w.heap.size, 9, none⟩ = some (.int .i64 (nl : Nat)) := row?_cell r8 9
        have c88 : w8.cell? ⟨w.heap.size, 8, none⟩ = some (.int .u64 (num : Nat)) := row?_cell r8 8
        have O8 := Lib.hid o8'
        have HL8 := Lib.hid hl8
        clear o8 o8' r8 b8 hl8 OX RX LX
        go_wp2_with (first
          | ((with_reducible refine Rg.plan_pure ?_ ?_ ?_); kernel_rfl; kernel_rfl; intro _ _)
          | ((with_reducible refine Rg.plan_take ?_ ?_ ?_); kernel_rfl; kernel_rfl; intro _ _)
          | ((with_reducible refine Rg.plan_keep ?_ ?_); kernel_rfl; intro K hK)
          | (refine hK _ _ (Rg.Keep.refl _) ?_; clear hK)
          | (refine hK _ _ (Rg.Keep.of_below (by assumption)) ?_; clear hK)
          | ((with_reducible refine Rg.plan_skip ?_ ?_); kernel_rfl)
          | (with_reducible refine Rg.plan_done ?_)
          | (with_reducible refine Rg.calm_normal ?_))
        refine (number_any (L3 ++ vin (rest + nl) 2) num nl (by have := HL8.out; omega) (by have := HN.out; omega) (by omega) v8 w.heap.size w8 bW8.size O8.out).mono ?_
        rintro e w9 ⟨v9, rfl, o9, b9⟩
        have H9 := Lib.hid o9
        clear o9
        go_wp2_with fail
        go_ret2
        refine ⟨v9, rfl, ?_, bW8.trans b9⟩
        rw [← ZX.out]
        exact H9.out
      · have hZ := HZ.out
        rw [hlt] at hZ
        have hZ' : L2 ++ vin (rest + nl) 2 ++ be num nl = Z := by rw [← hZ, ← HL2.out, ← HL1.out]; simp
        have hl6 : L2.length ≤ 1000 := by have := HL2l.out; omega
        have OX := O4
        have RX := R4
        have ZX := Lib.hid hZ'
        have LX := Lib.hid hl6
        clear hlt hZ hZ' hl6 HZ HL1 HL2 HL2l HL1l O4 R4 c45 htw
        have c9 : w4.cell? ⟨w.heap.size, 9, none⟩ = some (.int .i64 (nl : Nat)) := row?_cell RX.out 9
        go_wp2_with (first
          | ((with_reducible refine Rg.plan_pure ?_ ?_ ?_); kernel_rfl; kernel_rfl; intro _ _)
          | ((with_reducible refine Rg.plan_take ?_ ?_ ?_); kernel_rfl; kernel_rfl; intro _ _)
          | ((with_reducible refine Rg.plan_keep ?_ ?_); kernel_rfl; intro K hK)
          | (refine hK _ _ (Rg.Keep.refl _) ?_; clear hK)
          | (refine hK _ _ (Rg.Keep.of_below (by assumption)) ?_; clear hK)
          | ((with_reducible refine Rg.plan_skip ?_ ?_); kernel_rfl)
          | (with_reducible refine Rg.plan_done ?_)
          | (with_reducible refine Rg.calm_normal ?_))
        have hpl := vputlen_any L2 (rest + nl) 2 (by have := LX.out; omega) (by omega) (by omega) v4 w4 (Own.sl OX.out)
        rw [Int.natCast_add] at hpl
        refine hpl.mono ?_
        rintro e w8 ⟨v8, rfl, o8, b8⟩
        have bX := bW4
        have r8 : row? w8 w.heap.size = some (hvA true kind ver (.slice ad dst.length cd) (.slice as_ src.length cs) (.slice at_ tok.length ct) false false num nl) := Rg.stable_row b8 RX.out
        have bW8 : Below w.heap.size w w8 := bX.trans (b8.mono bX.size)
        have o8' : w8.ownsRow w.heap.size 5 1 v8 (L2 ++ vin (rest + nl) 2).length ((L2 ++ vin (rest + nl) 2).map bv) := own_lower o8 bX.size
        have hl8 : (L2 ++ vin (rest + nl) 2).length ≤ 2000 := by have := LX.out; simp [vin_length]; omega
        have c98 : w8.cell? ⟨w.heap.size, 9, none⟩ = some (.int .i64 (nl : Nat)) := row?_cell r8 9
        have c88 : w8.cell? ⟨w.heap.size, 8, none⟩ = some (.int .u64 (num : Nat)) := row?_cell r8 8
        have O8 := Lib.hid o8'
        have HL8 := Lib.hid hl8
        clear o8 o8' r8 b8 hl8 OX RX LX
        go_wp2_with (first
          | ((with_reducible refine Rg.plan_pure ?_ ?_ ?_); kernel_rfl; kernel_rfl; intro _ _)
          | ((with_reducible refine Rg.plan_take ?_ ?_ ?_); kernel_rfl; kernel_rfl; intro _ _)
          | ((with_reducible refine Rg.plan_keep ?_ ?_); kernel_rfl; intro K hK)
          | (refine hK _ _ (Rg.Keep.refl _) ?_; clear hK)
          | (refine hK _ _ (Rg.Keep.of_below (by assumption)) ?_; clear hK)
          | ((with_reducible refine Rg.plan_skip ?_ ?_); kernel_rfl)
          | (with_reducible refine Rg.plan_done ?_)
          | (with_reducible refine Rg.calm_normal ?_))
        refine (number_any (L2 ++ vin (rest + nl) 2) num nl (by have := HL8.out; omega) (by have := HN.out; omega) (by omega) v8 w.heap.size w8 bW8.size O8.out).mono ?_
        rintro e w9 ⟨v9, rfl, o9, b9⟩
        have H9 := Lib.hid o9
        clear o9
        go_wp2_with fail
        go_ret2
        refine ⟨v9, rfl, ?_, bW8.trans b9⟩
        rw [← ZX.out]
        exact H9.out
end Go.Proofs.Ytjlpppnpdgenfaa
