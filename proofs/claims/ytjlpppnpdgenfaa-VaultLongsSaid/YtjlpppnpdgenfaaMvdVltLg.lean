/- The walk of VaultLongs. -/
import Derived.Test.YtjlpppnpdgenfaaMvd0
import Derived.Test.YtjlpppnpdgenfaaMvbVltTM
import Derived.Test.YtjlpppnpdgenfaaMvbLawK
import Derived.Test.YtjlpppnpdgenfaaMvb19
import Derived.Test.YtjlpppnpdgenfaaMvbLibO
import Derived.Deep.DeepCutAuto
import Derived.Deep.CutBlock
import Derived.Lib.SlBytesConst
namespace Go.Proofs.Ytjlpppnpdgenfaa
open Go.RowKit Go.Rw Aes Hdr Vlt
attribute [local go_sem ↓] hvA_0 hvA_1 hvA_2 hvA_3 hvA_4 hvA_5 hvA_6 hvA_7 hvA_8 hvA_9
attribute [local go_sem ↓] ldH stH alH ldK stK alK ld16 st16 al16 ld12 st12 al12 shift_shl8 bvs_getElem?
attribute [local go_sem] rldH rstH ralH rstK ralK rld16 rst16 ral16 rld12 rst12 ral12 setRow_alloc_at setRow_alloc_past setRow_drew bvs_setn
theorem const_sl (w : World) (l : List UInt8) (C : Array Value) (t : TypeId) (fz : Nat × Nat) (hC : C = (l.map bv).toArray) (h0 : 0 < l.length) : Sl (w.alloc (.cells C t fz)) (.slice (some ⟨w.heap.size, 0, none⟩) l.length l.length) l := by
 subst hC
 refine ⟨_, l.length, rfl, Nat.le_refl _, fun h => (by cases h), fun _ => ⟨w.heap.size, 0, rfl, fun k hk => ?_⟩⟩
 rw [cell_of_row _ _ _ _ _ _ (heap_alloc_new w _)]
 simp [nth, bv, n8, hk]
theorem buildVL (ver n : Nat) (x : Int) (a b c : Option Addr) (m1 m2 m3 c1 c2 c3 : Nat) (w : World) : (buildP 30 #[(0, .bool true), (2, .int .u32 (ver : Nat)), (3, .slice a m1 c1), (4, .slice b m2 c2), (5, .slice c m3 c3), (8, .int .u64 (n : Nat)), (9, .int .i64 x)]).run Try.prog w = .ok (.agg (hvA true 0 ver (.slice a m1 c1) (.slice b m2 c2) (.slice c m3 c3) false false n x)) w := Go.run_build w _ _ _ (by kernel_rfl)
attribute [local go_sem] buildVL
set_option maxRecDepth 100000 in
set_option maxHeartbeats 8000000 in
theorem vlongs_any (key iv msk : List UInt8) (hk : key.length = 16) (hiv : iv.length = 12) (hmk : msk.length = 16) (ver num : UInt32) (tok text z : List UInt8) (cut0 : Int) (vt vx vz : Value) (w : World) (hst : Sl w vt tok) (hsx : Sl w vx text) (hsz : Sl w vz z) :
  Calls Try.prog 8 #[.agg (bvs (ksB key iv msk)), .int .u32 (ver.toNat : Nat), vt, .int .u32 (num.toNat : Nat), vx, .int .i64 cut0, vz] w fun e w' => e = .returned (.bool true) ∧ Below w.heap.size w w' := by
 obtain ⟨at_, ct, rfl, -, -, -⟩ := id hst
 obtain ⟨ax, cx, rfl, -, -, -⟩ := id hsx
 obtain ⟨az, cz, rfl, -, -, -⟩ := id hsz
 obtain ⟨i0, hi, hz0, hz1, hz2⟩ := info_parts info8
 have hKl := ksB_length hk hiv hmk
 have hcv := fun (w : World) (C : Array Value) (n c : Nat) => Lib.run_convert_bytes_const (P := Try.prog) w 27 5 C n c Try.underlying27 Try.underlying5
 have HIV := Lib.hid hiv
 have HMK := Lib.hid hmk
 have HKK := Lib.hid hk
 have ST := Lib.hid hst
 have SX := Lib.hid hsx
 have SZ := Lib.hid hsz
 clear hst hsx hsz hk hiv hmk
 obtain ⟨u, hu⟩ : ∃ u : UInt64, n64 u = num.toNat := ⟨UInt64.ofNat num.toNat, by have := num.toNat_lt; simp [n64]⟩
 have hnl := num.toNat_lt
 rw [← hu] at hnl ⊢
 have hseal := fun (h : text.length ≤ 1000000) W (vd vs vt' vx' : Value) h1 h2 h3 h4 => vseal_any key iv msk HKK.out HIV.out HMK.out true 0 ver.toNat d8 s3 tok false false u 4 text ver.toNat_lt h vd vs vt' vx' W h1 h2 h3 h4
 have hls := fun a b c => longs_seal key iv msk (ver := ver.toNat) (u := u) (tok := tok) (text := text) ver.toNat_lt hnl a b c
 have hop := fun (B : List UInt8) (hb : B.length ≤ 1000000) W vb h => vopen_any key iv msk HKK.out HIV.out HMK.out B hb (n64 u) u.toNat_lt true vb W h
 generalize sealR key iv msk true 0 ver.toNat d8 s3 tok false false u 4 text = SR at hseal hls
 generalize openV key iv msk = OV at hls hop
 generalize ksB key iv msk = KB at *
 have HSE := Lib.hid hseal
 have HLS := Lib.hid hls
 have HOP := Lib.hid hop
 clear hu hseal hls hop HKK HIV HMK
 have rk0 : row? (w.alloc (.cells (bvs KB) 25)) w.heap.size = some (bvs KB) := row?_alloc_at _ _ _ _ rfl
 have bk0 : Below w.heap.size w (w.alloc (.cells (bvs KB) 25)) := (Below.refl _ _).alloc (Nat.le_refl _) _
 have RK := Lib.hid rk0
 have BB := Lib.hid bk0
 clear rk0 bk0
 go_enter Try.func8, Try.ntmps8
 go_wp2_with (with_reducible refine Rw.hold_ops 24 ?_)
 refine Rw.Held.mk ?_
 generalize (w.alloc (.cells (bvs KB) 25)) = w0 at RK BB ⊢
 by_cases g1 : (30 : Int) < (tok.length : Nat)
 ·go_wp2_with fail
  refine (awake_any _).mono ?_
  rintro e w5 ⟨rfl, b5⟩
  have hW5 : Below w.heap.size w w5 := BB.out.trans (b5.mono BB.out.size)
  go_wp2_with fail
  go_ret
  exact ⟨rfl, hW5⟩
 by_cases g2 : ((text.length : Nat) : Int) < 4
 ·go_wp2_with fail
  refine (awake_any _).mono ?_
  rintro e w5 ⟨rfl, b5⟩
  have hW5 : Below w.heap.size w w5 := BB.out.trans (b5.mono BB.out.size)
  go_wp2_with fail
  go_ret
  exact ⟨rfl, hW5⟩
 by_cases g3 : (60 : Int) < (text.length : Nat)
 ·go_wp2_with fail
  refine (awake_any _).mono ?_
  rintro e w5 ⟨rfl, b5⟩
  have hW5 : Below w.heap.size w w5 := BB.out.trans (b5.mono BB.out.size)
  go_wp2_with fail
  go_ret
  exact ⟨rfl, hW5⟩
 by_cases g4 : (30 : Int) < (z.length : Nat)
 ·go_wp2_with fail
  refine (awake_any _).mono ?_
  rintro e w5 ⟨rfl, b5⟩
  have hW5 : Below w.heap.size w w5 := BB.out.trans (b5.mono BB.out.size)
  go_wp2_with fail
  go_ret
  exact ⟨rfl, hW5⟩
 have HL := Lib.hid (show tok.length ≤ 30 ∧ 4 ≤ text.length ∧ text.length ≤ 60 ∧ z.length ≤ 30 by omega)
 have hcv2 : ∀ (C D : Array Value) (n c : Nat) (fz : Nat × Nat), (convert 27 27 (.slice (some ⟨w0.heap.size + 1, 0, none⟩) n c)).run Try.prog ((w0.alloc (.cells D 5 fz)).alloc (.cells C 5)) = .ok (.slice (some ⟨w0.heap.size + 1, 0, none⟩) n c) ((w0.alloc (.cells D 5 fz)).alloc (.cells C 5 (C.size, C.size + 1))) := fun C D n c fz => by
  have h := hcv (w0.alloc (.cells D 5 fz)) C n c
  rw [show (w0.alloc (.cells D 5 fz)).heap.size = w0.heap.size + 1 by simp] at h
  exact h
 have lk : w.heap.size < w0.heap.size := row?_lt RK.out
 go_wp2_with (first
  | (with_reducible refine Rw.hold_ops 43 ?_))
 refine Rw.Held.mk ?_
 clear g1 g2 g3 g4
 go_wp2_with (first
  | (at_builtin; refine Classical.byContradiction ?_))
 intro hh; apply hh; clear hh
 have b1 : Below w0.heap.size w0 ((w0.alloc (.cells #[.int .u8 49, .int .u8 50, .int .u8 51, .int .u8 52, .int .u8 53, .int .u8 54, .int .u8 55, .int .u8 56] 5 (8, 9))).alloc (.cells #[.int .u8 97, .int .u8 98, .int .u8 99] 5 (3, 4))) := ((Below.refl _ _).alloc (Nat.le_refl _) _).alloc (by simp) _
 have s8 : Sl ((w0.alloc (.cells #[.int .u8 49, .int .u8 50, .int .u8 51, .int .u8 52, .int .u8 53, .int .u8 54, .int .u8 55, .int .u8 56] 5 (8, 9))).alloc (.cells #[.int .u8 97, .int .u8 98, .int .u8 99] 5 (3, 4))) (.slice (some ⟨w0.heap.size, 0, none⟩) 8 8) d8 := (const_sl w0 d8 _ _ _ rfl (by decide)).below ((Below.refl _ _).alloc (Nat.le_refl _) _)
 have s3 : Sl ((w0.alloc (.cells #[.int .u8 49, .int .u8 50, .int .u8 51, .int .u8 52, .int .u8 53, .int .u8 54, .int .u8 55, .int .u8 56] 5 (8, 9))).alloc (.cells #[.int .u8 97, .int .u8 98, .int .u8 99] 5 (3, 4))) (.slice (some ⟨w0.heap.size + 1, 0, none⟩) 3 3) s3 := by
  have h := const_sl (w0.alloc (.cells #[.int .u8 49, .int .u8 50, .int .u8 51, .int .u8 52, .int .u8 53, .int .u8 54, .int .u8 55, .int .u8 56] 5 (8, 9))) s3 _ 5 (3, 4) rfl (by decide)
  rw [show (w0.alloc (.cells #[.int .u8 49, .int .u8 50, .int .u8 51, .int .u8 52, .int .u8 53, .int .u8 54, .int .u8 55, .int .u8 56] 5 (8, 9))).heap.size = w0.heap.size + 1 by simp] at h
  exact h
 have h1s : ((w0.alloc (.cells #[.int .u8 49, .int .u8 50, .int .u8 51, .int .u8 52, .int .u8 53, .int .u8 54, .int .u8 55, .int .u8 56] 5 (8, 9))).alloc (.cells #[.int .u8 97, .int .u8 98, .int .u8 99] 5 (3, 4))).heap.size = w0.heap.size + 2 := by simp
 clear hcv hcv2
 generalize ((w0.alloc (.cells #[.int .u8 49, .int .u8 50, .int .u8 51, .int .u8 52, .int .u8 53, .int .u8 54, .int .u8 55, .int .u8 56] 5 (8, 9))).alloc (.cells #[.int .u8 97, .int .u8 98, .int .u8 99] 5 (3, 4))) = w1 at b1 s8 s3 h1s ⊢
 have hbw1 := BB.out.trans (b1.mono BB.out.size)
 refine app_sl rfl _ _ 27 rfl w1.heap.size 5 i0 Try.underlying27 hi hz0 hz1 hz2 (.slice none 0 0) [] rfl (World.ownsRow_nil _ _ _ _) (.slice at_ tok.length ct) tok rfl (ST.out.below hbw1) (by have := HL.out; simp; omega) (Nat.le_refl _) ?_
 intro v2 w2 o2 g2
 have b2 : Below w1.heap.size w1 w2 := ⟨g2.os, g2.tape, g2.output, g2.size, fun k hk => g2.block k hk (by simp [Value.ownBlock])⟩
 simp only [List.nil_append] at o2
 obtain ⟨ta, tc, rfl, -, -, -⟩ := id (Own.sl o2)
 have T2 := Lib.hid (Own.sl o2)
 generalize hsb : w0.heap.size + 1 = sb at s3 ⊢
 generalize hdb : w0.heap.size = db at s8 ⊢
 have hva : (#[.bool true, .int .i64 0, .int .u32 (ver.toNat : Nat), .slice (some ⟨db, 0, none⟩) 8 8, .slice (some ⟨sb, 0, none⟩) 3 3, .slice ta tok.length tc, .bool false, .bool false, .int .u64 (n64 u : Nat), .int .i64 4] : Array Value) = (hvA true 0 ver.toNat (.slice (some ⟨db, 0, none⟩) 8 8) (.slice (some ⟨sb, 0, none⟩) 3 3) (.slice ta tok.length tc) false false (n64 u) 4) := rfl
 go_wp2_with fail
 clear hva
 have rh : row? (w2.alloc (.cells (hvA true 0 ver.toNat (.slice (some ⟨db, 0, none⟩) 8 8) (.slice (some ⟨sb, 0, none⟩) 3 3) (.slice ta tok.length tc) false false (n64 u) 4) 30)) w2.heap.size = some (hvA true 0 ver.toNat (.slice (some ⟨db, 0, none⟩) 8 8) (.slice (some ⟨sb, 0, none⟩) 3 3) (.slice ta tok.length tc) false false (n64 u) 4) := row?_alloc_at _ _ _ _ rfl
 have b3 : Below w2.heap.size w2 (w2.alloc (.cells (hvA true 0 ver.toNat (.slice (some ⟨db, 0, none⟩) 8 8) (.slice (some ⟨sb, 0, none⟩) 3 3) (.slice ta tok.length tc) false false (n64 u) 4) 30)) := (Below.refl _ _).alloc (Nat.le_refl _) _
 have b12 : Below w1.heap.size w1 (w2.alloc (.cells (hvA true 0 ver.toNat (.slice (some ⟨db, 0, none⟩) 8 8) (.slice (some ⟨sb, 0, none⟩) 3 3) (.slice ta tok.length tc) false false (n64 u) 4) 30)) := b2.trans (b3.mono b2.size)
 have bA : Below w.heap.size w (w2.alloc (.cells (hvA true 0 ver.toNat (.slice (some ⟨db, 0, none⟩) 8 8) (.slice (some ⟨sb, 0, none⟩) 3 3) (.slice ta tok.length tc) false false (n64 u) 4) 30)) := hbw1.trans (b12.mono hbw1.size)
 have rkA := Rg.stable_row (b1.trans (b12.mono b1.size)) RK.out
 have T3 := Lib.hid (T2.out.below b3)
 have D3 := Lib.hid (s8.below b12)
 have E3 := Lib.hid (s3.below b12)
 have SX3 := Lib.hid (SX.out.below bA)
 have SZ3 := Lib.hid (SZ.out.below bA)
 have ST3 := Lib.hid (ST.out.below bA)
 obtain ⟨hb, hhb⟩ : ∃ hb, hb = w2.heap.size := ⟨_, rfl⟩
 have hbw : w.heap.size < hb := by have := b2.size; have := hbw1.size; omega
 rw [← hhb] at rh ⊢
 generalize (w2.alloc (.cells (hvA true 0 ver.toNat (.slice (some ⟨db, 0, none⟩) 8 8) (.slice (some ⟨sb, 0, none⟩) 3 3) (.slice ta tok.length tc) false false (n64 u) 4) 30)) = WA at rh bA rkA T3 D3 E3 SX3 SZ3 ST3 ⊢
 clear RK BB T2 SX SZ ST hbw1 b1 b2 b3 b12 o2 g2 s8 s3 h1s hdb hsb hhb lk
 have RK := Lib.hid rkA
 have RH := Lib.hid rh
 have BB := Lib.hid bA
 clear rkA rh bA
 refine Rg.wp_region_plan (Rg.row [(0, 0), (1, 0), (2, 3), (3, 1), (4, 1), (5, 3), (6, 3), (7, 3), (8, 3), (9, 3)] []) [] (by kernel_rfl) (by kernel_rfl) ?_
 simp only [Rg.row, Rg.PT.map, List.map_nil, List.getD_cons_zero, List.getD_cons_succ]
 have h77 : Below WA.heap.size WA WA.drew := (Below.refl _ _).drew
 have xk := Rg.stable_row h77 RK.out
 have xr := Rg.stable_row h77 RH.out
 have xb := BB.out.trans (h77.mono BB.out.size)
 clear RK RH BB
 have RK := Lib.hid xk
 have RH := Lib.hid xr
 have BB := Lib.hid xb
 clear xk xr xb
 have zz := T3.out.below h77
 clear T3
 have T3 := Lib.hid zz
 clear zz
 have zz := D3.out.below h77
 clear D3
 have D3 := Lib.hid zz
 clear zz
 have zz := E3.out.below h77
 clear E3
 have E3 := Lib.hid zz
 clear zz
 have zz := SX3.out.below h77
 clear SX3
 have SX3 := Lib.hid zz
 clear zz
 have zz := SZ3.out.below h77
 clear SZ3
 have SZ3 := Lib.hid zz
 clear zz
 have zz := ST3.out.below h77
 clear ST3
 have ST3 := Lib.hid zz
 clear zz
 clear h77
 generalize WA.drew = WB at RK RH BB T3 D3 E3 SX3 SZ3 ST3 ⊢
 have lk : (loadAgg 25 (.pointer (some ⟨w.heap.size, 0, none⟩))).run Try.prog WB = .ok (.agg (bvs KB)) WB := rldK WB _ _ RK.out hKl
 have lh : (loadAgg 30 (.pointer (some ⟨hb, 0, none⟩))).run Try.prog WB = .ok (.agg (hvA true 0 ver.toNat (.slice (some ⟨db, 0, none⟩) 8 8) (.slice (some ⟨sb, 0, none⟩) 3 3) (.slice ta tok.length tc) false false (n64 u) 4)) WB := by rw [rldH WB _ (by rw [RH.out]; rfl), RH.out]; rfl
 go_wp2_with (first
  |(with_reducible refine Rg.plan_pure ?_ ?_ ?_); kernel_rfl; kernel_rfl; intro _ _|(with_reducible refine Rg.plan_take ?_ ?_ ?_); kernel_rfl; kernel_rfl; intro _ _|(with_reducible refine Rg.plan_keep ?_ ?_); kernel_rfl; intro K hK; refine Rg.stay_ ?_|refine hK _ _ (Rg.Keep.refl _) ?_; clear hK|refine hK _ _ (Rg.Keep.of_below (by assumption)) ?_; clear hK|(with_reducible refine Rg.plan_skip ?_ ?_); kernel_rfl|(with_reducible refine Rg.plan_done ?_)|(with_reducible refine Rg.calm_normal ?_))
 refine Rg.Stay.mk ?_
 with_reducible refine Rg.wp_copy (l := text) (v := .slice ax text.length cx) (t := 27) (e := 5) (i := i0) (.tmp 56) ?_ Try.underlying27 hi hz0 hz1 hz2 ?_ SX3.out ?_ ?_
 kernel_rfl
 kernel_rfl
 have := HL.out; omega
 intro va WC o' hX
 refine hK _ _ (Rg.Keep.of_below hX) ?_
 clear hK
 have OA := Lib.hid o'
 clear o'
 have xk := Rg.stable_row hX RK.out
 have xr := Rg.stable_row hX RH.out
 have xb := BB.out.trans (hX.mono BB.out.size)
 clear RK RH BB
 have RK := Lib.hid xk
 have RH := Lib.hid xr
 have BB := Lib.hid xb
 clear xk xr xb
 have zz := T3.out.below hX
 clear T3
 have T3 := Lib.hid zz
 clear zz
 have zz := D3.out.below hX
 clear D3
 have D3 := Lib.hid zz
 clear zz
 have zz := E3.out.below hX
 clear E3
 have E3 := Lib.hid zz
 clear zz
 have zz := SX3.out.below hX
 clear SX3
 have SX3 := Lib.hid zz
 clear zz
 have zz := SZ3.out.below hX
 clear SZ3
 have SZ3 := Lib.hid zz
 clear zz
 have zz := ST3.out.below hX
 clear ST3
 have ST3 := Lib.hid zz
 clear zz
 clear hX
 obtain ⟨aa, ac, rfl, -, -, -⟩ := id (Own.sl OA.out)
 have A3 := Lib.hid (Own.sl OA.out)
 clear OA lk lh
 go_wp2_with (first
  |(with_reducible refine Rg.plan_pure ?_ ?_ ?_); kernel_rfl; kernel_rfl; intro _ _|(with_reducible refine Rg.plan_take ?_ ?_ ?_); kernel_rfl; kernel_rfl; intro _ _|(with_reducible refine Rg.plan_keep ?_ ?_); kernel_rfl; intro K hK|refine hK _ _ (Rg.Keep.refl _) ?_; clear hK|refine hK _ _ (Rg.Keep.of_below (by assumption)) ?_; clear hK|(with_reducible refine Rg.plan_skip ?_ ?_); kernel_rfl|(with_reducible refine Rg.plan_done ?_)|(with_reducible refine Rg.calm_normal ?_))
 have hse := HSE.out (by have := HL.out; omega) WC _ _ _ _ D3.out E3.out T3.out A3.out
 clear HSE A3
 refine hse.mono ?_
 clear hse
 rintro e WD ⟨vb, rfl, ob, hX⟩
 refine hK _ _ (Rg.Keep.of_below hX) ?_
 clear hK
 have hL := HL.out
 obtain ⟨S, hSR, hS40, hS600, hSo, hSc⟩ := HLS.out hL.1 hL.2.1 hL.2.2.1
 subst hSR
 clear HLS hL
 have HSB := Lib.hid (And.intro hS40 hS600)
 have HSO := Lib.hid hSo
 have HSC := Lib.hid hSc
 clear hS40 hS600 hSo hSc
 simp only [] at ob
 obtain ⟨ab, cb, rfl, hcb, -, -⟩ := id (Own.sl ob)
 have HCB := Lib.hid hcb
 clear hcb
 have S3 := Lib.hid (Own.sl ob)
 clear ob
 have xk := Rg.stable_row hX RK.out
 have xr := Rg.stable_row hX RH.out
 have xb := BB.out.trans (hX.mono BB.out.size)
 clear RK RH BB
 have RK := Lib.hid xk
 have RH := Lib.hid xr
 have BB := Lib.hid xb
 clear xk xr xb
 have zz := T3.out.below hX
 clear T3
 have T3 := Lib.hid zz
 clear zz
 have zz := D3.out.below hX
 clear D3
 have D3 := Lib.hid zz
 clear zz
 have zz := E3.out.below hX
 clear E3
 have E3 := Lib.hid zz
 clear zz
 have zz := SX3.out.below hX
 clear SX3
 have SX3 := Lib.hid zz
 clear zz
 have zz := SZ3.out.below hX
 clear SZ3
 have SZ3 := Lib.hid zz
 clear zz
 have zz := ST3.out.below hX
 clear ST3
 have ST3 := Lib.hid zz
 clear zz
 clear hX
 have h40 : ¬ (((S.length : Nat) : Int) < 40) := by have := HSB.out; omega
 go_wp2_with (first
  |(with_reducible refine Rg.plan_pure ?_ ?_ ?_); kernel_rfl; kernel_rfl; intro _ _|(with_reducible refine Rg.plan_take ?_ ?_ ?_); kernel_rfl; kernel_rfl; intro _ _|(with_reducible refine Rg.plan_keep ?_ ?_); kernel_rfl; intro K hK|refine hK _ _ (Rg.Keep.refl _) ?_; clear hK|refine hK _ _ (Rg.Keep.of_below (by assumption)) ?_; clear hK|(with_reducible refine Rg.plan_skip ?_ ?_); kernel_rfl|(with_reducible refine Rg.plan_done ?_)|(with_reducible refine Rg.calm_normal ?_))
 refine Rg.wp_region_inv9 [(1, 3), (3, 3), (5, 3), (6, 3)] [⟨0, 69, [], false, fun _ _ => True⟩, ⟨2, 71, [], false, fun _ _ => True⟩, ⟨4, 73, [2], false, fun _ _ => True⟩, ⟨7, 76, [0, 4], false, fun _ _ => True⟩, ⟨8, 68, [7], false, fun _ _ => True⟩, ⟨9, 77, [8], false, fun _ _ => True⟩, ⟨10, 78, [8], false, fun _ _ => True⟩, ⟨11, 79, [8], false, fun _ _ => True⟩, ⟨12, 18, [], false, fun _ _ => True⟩, ⟨13, 100013, [0, 2, 4, 7, 8, 9, 12], false, fun _ _ => True⟩, ⟨14, 19, [0, 2, 4, 7, 8, 9, 10, 12, 13], false, fun _ _ => True⟩, ⟨15, 20, [0, 2, 4, 7, 8, 9, 10, 11, 12, 13, 14], false, fun _ _ => True⟩] [(0, 69, []), (2, 71, []), (4, 73, [2]), (7, 76, [0, 4]), (8, 68, [7]), (9, 77, [8]), (10, 78, [8]), (11, 79, [8]), (12, 18, []), (13, 100013, [0, 2, 4, 7, 8, 9, 12]), (14, 19, [0, 2, 4, 7, 8, 9, 10, 12, 13]), (15, 20, [0, 2, 4, 7, 8, 9, 10, 11, 12, 13, 14])] [4, 13] [] (by kernel_rfl) (by kernel_rfl) rfl (by kernel_rfl) ?_
 simp only [Rg.row, Rg.PT.map, List.getD_cons_zero, List.getD_cons_succ]
 go_wp2_with (first
  |(with_reducible refine Rg.plan_pure ?_ ?_ ?_); kernel_rfl; kernel_rfl; intro _ _|(with_reducible refine Rg.plan_take ?_ ?_ ?_); kernel_rfl; kernel_rfl; intro _ _|(with_reducible refine Rg.plan_keep ?_ ?_); kernel_rfl; intro K hK|refine hK _ _ (Rg.Keep.refl _) ?_; clear hK|refine hK _ _ (Rg.Keep.of_below (by assumption)) ?_; clear hK|(with_reducible refine Rg.plan_skip ?_ ?_); kernel_rfl|(with_reducible refine Rg.plan_done ?_)|(with_reducible refine Rg.calm_normal ?_))
 have h77 : Below WD.heap.size WD WD.drew := (Below.refl _ _).drew
 have xk := Rg.stable_row h77 RK.out
 have xr := Rg.stable_row h77 RH.out
 have xb := BB.out.trans (h77.mono BB.out.size)
 clear RK RH BB
 have RK := Lib.hid xk
 have RH := Lib.hid xr
 have BB := Lib.hid xb
 clear xk xr xb
 have zz := T3.out.below h77
 clear T3
 have T3 := Lib.hid zz
 clear zz
 have zz := D3.out.below h77
 clear D3
 have D3 := Lib.hid zz
 clear zz
 have zz := E3.out.below h77
 clear E3
 have E3 := Lib.hid zz
 clear zz
 have zz := SX3.out.below h77
 clear SX3
 have SX3 := Lib.hid zz
 clear zz
 have zz := SZ3.out.below h77
 clear SZ3
 have SZ3 := Lib.hid zz
 clear zz
 have zz := ST3.out.below h77
 clear ST3
 have ST3 := Lib.hid zz
 clear zz
 have zz := S3.out.below h77
 clear S3
 have S3 := Lib.hid zz
 clear zz
 clear h77
 generalize WD.drew = WE at RK RH BB T3 D3 E3 SX3 SZ3 ST3 S3 ⊢
 have HWH := Lib.hid (show hb < WE.heap.size from row?_lt RH.out)
 have HWK := Lib.hid (show w.heap.size < WE.heap.size from row?_lt RK.out)
 obtain ⟨q, hq⟩ : ∃ q, OV (S ++ z) (n64 u) true = q := ⟨_, rfl⟩
 refine Rg.phase_spare (w0 := WE) [⟨0, 69, [], [], none, [], [0, 0], (Rg.At 0 0 (Rg.JC (.agg (bvs KB))))⟩, ⟨2, 71, [], [], none, [], [2, 2], (Rg.At 2 2 (Rg.JA 5 S))⟩, ⟨4, 73, [2], [2], (some 2), [2], [4, 4], (Rg.At 4 4 (Rg.JB WE.heap.size 5 (S ++ z)))⟩, ⟨7, 76, [0, 4], [0, 4], none, [4], [7, 7], (Rg.At 7 7 (JOpen q))⟩, ⟨8, 68, [7], [7], none, [], [8, 7], (Rg.At 8 7 (JOpen q))⟩, ⟨9, 77, [8], [8], none, [], [9, 7], (Rg.At 9 7 (JHdr q.1))⟩, ⟨10, 78, [8], [8], none, [], [10, 7], (Rg.At 10 7 (Rg.JA 5 q.2.1))⟩, ⟨11, 79, [8], [8], none, [], [11, 7], (Rg.At 11 7 (Rg.JC (.int .i64 q.2.2)))⟩, ⟨12, 18, [], [], none, [], [12, 12], (Rg.At 12 12 (Rg.JV (hvA false 0 0 (.slice none 0 0) (.slice none 0 0) (.slice none 0 0) false false 0 0)))⟩, ⟨13, 100013, [0, 2, 4, 7, 8, 9, 12], [12, 9], (some 12), [12], [13, 12, 9], (Rg.JSt 12 9)⟩, ⟨14, 19, [0, 2, 4, 7, 8, 9, 10, 12, 13], [10], none, [], [14, 7], (Rg.At 14 7 (Rg.JA 5 q.2.1))⟩, ⟨15, 20, [0, 2, 4, 7, 8, 9, 10, 11, 12, 13, 14], [11], none, [], [15, 7], (Rg.At 15 7 (Rg.JC (.int .i64 q.2.2)))⟩] rfl (by kernel_rfl) ?_ ?_ ?_ ?_ ?_
 ·exact List.forall_mem_cons.2 ⟨Rg.At.congr (i := 0) (k := 0) (J := (Rg.JC (.agg (bvs KB)))), List.forall_mem_cons.2 ⟨Rg.At.congr (i := 2) (k := 2) (J := (Rg.JA 5 S)), List.forall_mem_cons.2 ⟨Rg.At.congr (i := 4) (k := 4) (J := (Rg.JB WE.heap.size 5 (S ++ z))), List.forall_mem_cons.2 ⟨Rg.At.congr (i := 7) (k := 7) (J := (JOpen q)), List.forall_mem_cons.2 ⟨Rg.At.congr (i := 8) (k := 7) (J := (JOpen q)), List.forall_mem_cons.2 ⟨Rg.At.congr (i := 9) (k := 7) (J := (JHdr q.1)), List.forall_mem_cons.2 ⟨Rg.At.congr (i := 10) (k := 7) (J := (Rg.JA 5 q.2.1)), List.forall_mem_cons.2 ⟨Rg.At.congr (i := 11) (k := 7) (J := (Rg.JC (.int .i64 q.2.2))), List.forall_mem_cons.2 ⟨Rg.At.congr (i := 12) (k := 12) (J := (Rg.JV (hvA false 0 0 (.slice none 0 0) (.slice none 0 0) (.slice none 0 0) false false 0 0))), List.forall_mem_cons.2 ⟨Rg.JSt.congr, List.forall_mem_cons.2 ⟨Rg.At.congr (i := 14) (k := 7) (J := (Rg.JA 5 q.2.1)), List.forall_mem_cons.2 ⟨Rg.At.congr (i := 15) (k := 7) (J := (Rg.JC (.int .i64 q.2.2))), fun r hr => (by cases hr)⟩⟩⟩⟩⟩⟩⟩⟩⟩⟩⟩⟩
 ·exact List.forall_mem_cons.2 ⟨Rg.At.sb (i := 0) (k := 0) Rg.JC.sb, List.forall_mem_cons.2 ⟨Rg.At.sb (i := 2) (k := 2) Rg.JA.sb, List.forall_mem_cons.2 ⟨Rg.At.sb (i := 4) (k := 4) Rg.JB.sb, List.forall_mem_cons.2 ⟨Rg.At.sb (i := 7) (k := 7) JOpen.sb, List.forall_mem_cons.2 ⟨Rg.At.sb (i := 8) (k := 7) JOpen.sb, List.forall_mem_cons.2 ⟨Rg.At.sb (i := 9) (k := 7) JHdr.sb, List.forall_mem_cons.2 ⟨Rg.At.sb (i := 10) (k := 7) Rg.JA.sb, List.forall_mem_cons.2 ⟨Rg.At.sb (i := 11) (k := 7) Rg.JC.sb, List.forall_mem_cons.2 ⟨Rg.At.sb (i := 12) (k := 12) Rg.JV.sb, List.forall_mem_cons.2 ⟨Rg.JSt.sb, List.forall_mem_cons.2 ⟨Rg.At.sb (i := 14) (k := 7) Rg.JA.sb, List.forall_mem_cons.2 ⟨Rg.At.sb (i := 15) (k := 7) Rg.JC.sb, fun r hr => (by cases hr)⟩⟩⟩⟩⟩⟩⟩⟩⟩⟩⟩⟩
 ·refine List.forall_mem_cons.2 ⟨fun _ _ s _ _ _ _ => Rg.At.ss (i := 0) (k := 0) Rg.JC.ss s, List.forall_mem_cons.2 ⟨fun _ _ s _ _ _ _ => Rg.At.ss (i := 2) (k := 2) Rg.JA.ss s, List.forall_mem_cons.2 ⟨?_, List.forall_mem_cons.2 ⟨fun _ _ s _ _ _ _ => Rg.At.ss (i := 7) (k := 7) JOpen.ss s, List.forall_mem_cons.2 ⟨fun _ _ s _ _ _ _ => Rg.At.ss (i := 8) (k := 7) JOpen.ss s, List.forall_mem_cons.2 ⟨fun _ _ s _ _ _ _ => Rg.At.ss (i := 9) (k := 7) JHdr.ss s, List.forall_mem_cons.2 ⟨fun _ _ s _ _ _ _ => Rg.At.ss (i := 10) (k := 7) Rg.JA.ss s, List.forall_mem_cons.2 ⟨fun _ _ s _ _ _ _ => Rg.At.ss (i := 11) (k := 7) Rg.JC.ss s, List.forall_mem_cons.2 ⟨fun _ _ s _ _ _ _ => Rg.At.ss (i := 12) (k := 12) Rg.JV.ss s, List.forall_mem_cons.2 ⟨fun _ _ s _ _ _ _ => Rg.JSt.ss s, List.forall_mem_cons.2 ⟨fun _ _ s _ _ _ _ => Rg.At.ss (i := 14) (k := 7) Rg.JA.ss s, List.forall_mem_cons.2 ⟨fun _ _ s _ _ _ _ => Rg.At.ss (i := 15) (k := 7) Rg.JC.ss s, fun r hr => (by cases hr)⟩⟩⟩⟩⟩⟩⟩⟩⟩⟩⟩⟩
  intro q hq s hs h1 h2 h3
  exfalso
  revert s
  revert q
  simp
 ·refine List.forall_mem_cons.2 ⟨?_, List.forall_mem_cons.2 ⟨?_, List.forall_mem_cons.2 ⟨?_, List.forall_mem_cons.2 ⟨?_, List.forall_mem_cons.2 ⟨?_, List.forall_mem_cons.2 ⟨?_, List.forall_mem_cons.2 ⟨?_, List.forall_mem_cons.2 ⟨?_, List.forall_mem_cons.2 ⟨?_, List.forall_mem_cons.2 ⟨?_, List.forall_mem_cons.2 ⟨?_, List.forall_mem_cons.2 ⟨?_, fun r hr => (by cases hr)⟩⟩⟩⟩⟩⟩⟩⟩⟩⟩⟩⟩
  ·with_reducible refine Rg.es_load 0 69 [] [] [] (t := 25) (x := (.tmp 7)) (xv := (.pointer (some ⟨w.heap.size, 0, none⟩))) (v := (.agg (bvs KB))) ?_ ?_ ?_ ?_
   ·kernel_rfl
   ·kernel_rfl
   ·intro us; kernel_rfl
   ·exact fun w hb => rldK w _ _ (Rg.row_below hb RK.out HWK.out) hKl
  ·with_reducible refine Rg.es_app0 2 71 [] [] [] (t := 27) (e := 5) (inf := i0) (x := (.tmp 70)) (xv := fun _ => .slice ab S.length cb) (S) ?_ ?_ Try.underlying27 hi hz0 hz1 hz2 ?_ ?_ ?_
   ·kernel_rfl
   ·kernel_rfl
   ·intro us; kernel_rfl
   ·have := HSB.out; omega
   ·exact fun _ _ _ w hb _ => S3.out.below hb
  ·with_reducible refine Rg.es_app 4 73 [2] [2] ⟨2, 71, [], [], none, [], [2, 2], (Rg.At 2 2 (Rg.JA 5 S))⟩ 2 (t := 27) (e := 5) (inf := i0) (y := (.tmp 71)) (x := (.tmp 72)) (xv := (.slice az z.length cz)) (S) (z) ?_ ?_ Try.underlying27 hi hz0 hz1 hz2 ?_ ?_ ?_ ?_ ?_ ?_ ?_ ?_
   ·kernel_rfl
   ·kernel_rfl
   ·intro us; kernel_rfl
   ·intro us; kernel_rfl
   ·exact (List.getElem_mem (n := 1) (by simp))
   ·rfl
   ·rfl
   ·simp
   ·have := HSB.out; have := HL.out; omega
   ·exact fun w hb => SZ3.out.below hb
  ·with_reducible refine Rg.es_call 7 76 [4] [0, 4] [0, 4] [7, 7] (JOpen q) (f := 14) (xs := #[.tmp 69, .tmp 73, .tmp 75, .const (.bool true)]) (ts := #[25, 27, 28, 4]) (args := fun us => #[us 0, us 4, .int .u64 (n64 u : Nat), .bool true]) ?_ (fun args w => ?_) ?_ ?_ ?_
   ·kernel_rfl
   ·kernel_rfl
   ·kernel_rfl
   ·intro us; kernel_rfl
   ·intro us lo hi w hb hdep
    have e0 : us 0 = .agg (bvs KB) := (hdep _ (List.getElem_mem (n := 0) (by simp)) (by simp)).1
    have e4 : w.ownsRow WE.heap.size 5 1 (us 4) (S ++ z).length ((S ++ z).map bv) := (hdep _ (List.getElem_mem (n := 2) (by simp)) (by simp)).1
    show Calls Try.prog _ #[us 0, us 4, .int .u64 (n64 u : Nat), .bool true] w _
    rw [e0]
    refine (HOP.out (S ++ z) (by have := HSB.out; have := HL.out; simp; omega) w (us 4) (Own.sl e4)).mono ?_
    rw [hq]
    intro e w' h
    exact h.J
  ·with_reducible refine Rg.es_mv 8 68 [] [7] ⟨7, 76, [0, 4], [0, 4], none, [4], [7, 7], (Rg.At 7 7 (JOpen q))⟩ 7 7 (JOpen q) (x := (.tmp 76)) ?_ ?_ ?_ ?_ ?_ ?_ ?_
   ·kernel_rfl
   ·exact .inl (by kernel_rfl)
   ·intro us; kernel_rfl
   ·exact (List.getElem_mem (n := 3) (by simp))
   ·rfl
   ·rfl
   ·decide
  ·with_reducible refine Rg.es_ext 9 77 [] [8] ⟨8, 68, [7], [7], none, [], [8, 7], (Rg.At 8 7 (JOpen q))⟩ 8 7 (JOpen q) (JHdr q.1) (x := (.tmp 68)) (ix := 0) ?_ ?_ ?_ ?_ ?_ ?_ ?_ JOpen.e0
   ·kernel_rfl
   ·kernel_rfl
   ·intro us; kernel_rfl
   ·exact (List.getElem_mem (n := 4) (by simp))
   ·rfl
   ·rfl
   ·decide
  ·with_reducible refine Rg.es_ext 10 78 [] [8] ⟨8, 68, [7], [7], none, [], [8, 7], (Rg.At 8 7 (JOpen q))⟩ 8 7 (JOpen q) (Rg.JA 5 q.2.1) (x := (.tmp 68)) (ix := 1) ?_ ?_ ?_ ?_ ?_ ?_ ?_ JOpen.e1
   ·kernel_rfl
   ·kernel_rfl
   ·intro us; kernel_rfl
   ·exact (List.getElem_mem (n := 4) (by simp))
   ·rfl
   ·rfl
   ·decide
  ·with_reducible refine Rg.es_ext 11 79 [] [8] ⟨8, 68, [7], [7], none, [], [8, 7], (Rg.At 8 7 (JOpen q))⟩ 8 7 (JOpen q) (Rg.JC (.int .i64 q.2.2)) (x := (.tmp 68)) (ix := 2) ?_ ?_ ?_ ?_ ?_ ?_ ?_ JOpen.e2
   ·kernel_rfl
   ·kernel_rfl
   ·intro us; kernel_rfl
   ·exact (List.getElem_mem (n := 4) (by simp))
   ·rfl
   ·rfl
   ·decide
  ·with_reducible refine Rg.es_alloc 12 18 [] [] [] (t := 30) (Z := (hvA false 0 0 (.slice none 0 0) (.slice none 0 0) (.slice none 0 0) false false 0 0)) ?_ ?_ ?_
   ·kernel_rfl
   ·kernel_rfl
   ·exact fun w => (congrArg (Sem.run Try.prog · w) (alH ..)).trans (ralH ..)
  ·with_reducible refine Rg.es_store 13 100013 [12] [0, 2, 4, 7, 8, 9, 12] ⟨12, 18, [], [], none, [], [12, 12], (Rg.At 12 12 (Rg.JV (hvA false 0 0 (.slice none 0 0) (.slice none 0 0) (.slice none 0 0) false false 0 0)))⟩ ⟨9, 77, [8], [8], none, [], [9, 7], (Rg.At 9 7 (JHdr q.1))⟩ 12 9 7 (JHdr q.1) (fun H => H.size = 10 ∧ allOne H = true) (t := 30) (Z := (hvA false 0 0 (.slice none 0 0) (.slice none 0 0) (.slice none 0 0) false false 0 0)) (x := (.tmp 18)) (y := (.tmp 77)) ?_ ?_ ?_ ?_ ?_ ?_ ?_ ?_ ?_ ?_ ?_ ?_ ?_ JHdr.agg ?_
   ·kernel_rfl
   ·kernel_rfl
   ·kernel_rfl
   ·intro us; kernel_rfl
   ·intro us; kernel_rfl
   ·exact (List.getElem_mem (n := 8) (by simp))
   ·rfl
   ·rfl
   ·exact (List.getElem_mem (n := 5) (by simp))
   ·rfl
   ·rfl
   ·decide
   ·decide
   ·exact fun w b H h1 h2 => (congrArg (Sem.run Try.prog · w) (stH ..)).trans (rstH w b H (by rw [h1]; rfl) h2.1 h2.2)
  ·with_reducible refine Rg.es_mv 14 19 [] [0, 2, 4, 7, 8, 9, 10, 12, 13] ⟨10, 78, [8], [8], none, [], [10, 7], (Rg.At 10 7 (Rg.JA 5 q.2.1))⟩ 10 7 (Rg.JA 5 q.2.1) (x := (.tmp 78)) ?_ ?_ ?_ ?_ ?_ ?_ ?_
   ·kernel_rfl
   ·exact .inr (by kernel_rfl)
   ·intro us; kernel_rfl
   ·exact (List.getElem_mem (n := 6) (by simp))
   ·rfl
   ·rfl
   ·decide
  ·with_reducible refine Rg.es_mv 15 20 [] [0, 2, 4, 7, 8, 9, 10, 11, 12, 13, 14] ⟨11, 79, [8], [8], none, [], [11, 7], (Rg.At 11 7 (Rg.JC (.int .i64 q.2.2)))⟩ 11 7 (Rg.JC (.int .i64 q.2.2)) (x := (.tmp 79)) ?_ ?_ ?_ ?_ ?_ ?_ ?_
   ·kernel_rfl
   ·exact .inr (by kernel_rfl)
   ·intro us; kernel_rfl
   ·exact (List.getElem_mem (n := 7) (by simp))
   ·rfl
   ·rfl
   ·decide
 ·intro us lo hi WF hX hJ hbd hdj
  have j1 : Rg.JSt 12 9 us lo hi WF := hJ _ (List.getElem_mem (n := 9) (by simp)) (by simp)
  have j2 : JHdr q.1 (us 9) (lo 7) (hi 7) WF := hJ _ (List.getElem_mem (n := 5) (by simp)) (by simp)
  have j3 : Rg.JA 5 q.2.1 (us 14) (lo 7) (hi 7) WF := hJ _ (List.getElem_mem (n := 10) (by simp)) (by simp)
  have j4 : us 15 = .int .i64 q.2.2 := hJ _ (List.getElem_mem (n := 11) (by simp)) (by simp)
  have d1 : hi 7 ≤ lo 12 ∨ hi 12 ≤ lo 7 := hdj _ (List.getElem_mem (n := 3) (by simp)) _ (List.getElem_mem (n := 8) (by simp)) (by simp)
  have b1 : WE.heap.size ≤ lo 12 ∧ lo 12 ≤ hi 12 ∧ hi 12 ≤ WF.heap.size := hbd _ (List.getElem_mem (n := 8) (by simp))
  clear hJ hbd hdj
  simp only [Rg.puts, List.map_cons, List.map_nil]
  obtain ⟨H, e9, e12, hb12, hrow⟩ := j1
  obtain ⟨⟨pa1, pc1, pa2, pc2, pa3, pc3, e9', g1, g2, g3, -, -, -⟩⟩ := JHdr.inn (b := lo 12) j2 (by omega)
  rw [e9] at e9' ⊢
  injection e9' with e9'
  subst e9'
  obtain ⟨o4, -⟩ := j3
  have g4 := Own.sl o4
  clear o4
  have hqe : q = (⟨true, 0, ver.toNat, d8, s3, tok, false, false, n64 u, 4⟩, text, 0) := hq.symm.trans (HSO.out z (by have := HL.out; omega))
  subst hqe
  dsimp only at g1 g2 g3 g4 hrow j4
  rw [e12, j4]
  generalize us 14 = v4 at g4 ⊢
  obtain ⟨pa4, pc4, rfl, -, -, -⟩ := id g4
  have hgb := b1.1
  generalize lo 12 = gb at hgb hrow ⊢
  clear e12 j4 e9 j2 d1 b1 hb12 hq
  generalize us 0 = u0
  generalize us 2 = u2
  generalize us 4 = u4
  generalize us 7 = u7
  generalize us 8 = u8
  generalize us 10 = u10
  generalize us 11 = u11
  generalize us 13 = u13
  clear us lo hi
  have xk := Rg.stable_row hX RK.out
  have xr := Rg.stable_row hX RH.out
  have xb := BB.out.trans (hX.mono BB.out.size)
  clear RK RH BB
  have RK := Lib.hid xk
  have RH := Lib.hid xr
  have BB := Lib.hid xb
  clear xk xr xb
  have zz := T3.out.below hX
  clear T3
  have T3 := Lib.hid zz
  clear zz
  have zz := D3.out.below hX
  clear D3
  have D3 := Lib.hid zz
  clear zz
  have zz := E3.out.below hX
  clear E3
  have E3 := Lib.hid zz
  clear zz
  have zz := SX3.out.below hX
  clear SX3
  have SX3 := Lib.hid zz
  clear zz
  have zz := SZ3.out.below hX
  clear SZ3
  have SZ3 := Lib.hid zz
  clear zz
  have zz := ST3.out.below hX
  clear ST3
  have ST3 := Lib.hid zz
  clear zz
  have zz := S3.out.below hX
  clear S3
  have S3 := Lib.hid zz
  clear zz
  have RG := Lib.hid hrow
  have GB := Lib.hid (show w.heap.size < gb ∧ hb < gb from ⟨Nat.lt_of_lt_of_le HWK.out hgb, Nat.lt_of_lt_of_le HWH.out hgb⟩)
  have G1 := Lib.hid g1
  have G2 := Lib.hid g2
  have G3 := Lib.hid g3
  have G4 := Lib.hid g4
  clear g1 g2 g3 g4 hX hgb hrow HWK HWH
  go_wp2_with (first
   |(with_reducible refine Rg.plan_pure ?_ ?_ ?_); kernel_rfl; kernel_rfl; intro _ _|(with_reducible refine Rg.plan_take ?_ ?_ ?_); kernel_rfl; kernel_rfl; intro _ _|(with_reducible refine Rg.plan_keep ?_ ?_); kernel_rfl; intro K hK|refine hK _ _ (Rg.Keep.refl _) ?_; clear hK|refine hK _ _ (Rg.Keep.of_below (by assumption)) ?_; clear hK|(with_reducible refine Rg.plan_skip ?_ ?_); kernel_rfl|(with_reducible refine Rg.plan_done ?_)|(with_reducible refine Rg.calm_normal ?_))
  have hj := low_lt cut0 S.length (by have := HSB.out; omega)
  have hlo := low_any cut0 S.length (by have := HSB.out; omega) (by have := HSB.out; omega)
  generalize low cut0 S.length = j at hj hlo
  have HLO := Lib.hid hlo
  have HJ := Lib.hid hj
  clear hlo hj
  refine Rg.wp_region_inv9 [(1, 3), (2, 3), (3, 3), (8, 3), (9, 3)] [⟨0, 81, [], false, fun _ _ => True⟩, ⟨4, 85, [], false, fun _ _ => True⟩, ⟨5, 86, [4], false, fun _ _ => True⟩, ⟨6, 87, [5], false, fun _ _ => True⟩, ⟨7, 88, [5, 6], false, fun _ _ => True⟩, ⟨10, 91, [0, 7], false, fun _ _ => True⟩, ⟨11, 80, [10], false, fun _ _ => True⟩, ⟨12, 92, [11], false, fun _ _ => True⟩, ⟨13, 93, [11], false, fun _ _ => True⟩, ⟨14, 94, [11], false, fun _ _ => True⟩, ⟨15, 21, [], false, fun _ _ => True⟩, ⟨16, 100016, [0, 4, 5, 6, 7, 10, 11, 12, 15], false, fun _ _ => True⟩, ⟨17, 22, [0, 4, 5, 6, 7, 10, 11, 12, 13, 15, 16], false, fun _ _ => True⟩, ⟨18, 23, [0, 4, 5, 6, 7, 10, 11, 12, 13, 14, 15, 16, 17], false, fun _ _ => True⟩] [(0, 81, []), (4, 85, []), (5, 86, [4]), (6, 87, [5]), (7, 88, [5, 6]), (10, 91, [0, 7]), (11, 80, [10]), (12, 92, [11]), (13, 93, [11]), (14, 94, [11]), (15, 21, []), (16, 100016, [0, 4, 5, 6, 7, 10, 11, 12, 15]), (17, 22, [0, 4, 5, 6, 7, 10, 11, 12, 13, 15, 16]), (18, 23, [0, 4, 5, 6, 7, 10, 11, 12, 13, 14, 15, 16, 17])] [16] [] (by kernel_rfl) (by kernel_rfl) rfl (by kernel_rfl) ?_
  simp only [Rg.row, Rg.PT.map, List.getD_cons_zero, List.getD_cons_succ]
  go_wp2_with (first
   |(with_reducible refine Rg.plan_pure ?_ ?_ ?_); kernel_rfl; kernel_rfl; intro _ _|(with_reducible refine Rg.plan_take ?_ ?_ ?_); kernel_rfl; kernel_rfl; intro _ _|(with_reducible refine Rg.plan_keep ?_ ?_); kernel_rfl; intro K hK|refine hK _ _ (Rg.Keep.refl _) ?_; clear hK|refine hK _ _ (Rg.Keep.of_below (by assumption)) ?_; clear hK|(with_reducible refine Rg.plan_skip ?_ ?_); kernel_rfl|(with_reducible refine Rg.plan_done ?_)|(with_reducible refine Rg.calm_normal ?_))
  have h77 : Below WF.heap.size WF WF.drew := (Below.refl _ _).drew
  have xk := Rg.stable_row h77 RK.out
  have xr := Rg.stable_row h77 RH.out
  have xb := BB.out.trans (h77.mono BB.out.size)
  clear RK RH BB
  have RK := Lib.hid xk
  have RH := Lib.hid xr
  have BB := Lib.hid xb
  clear xk xr xb
  have zz := T3.out.below h77
  clear T3
  have T3 := Lib.hid zz
  clear zz
  have zz := D3.out.below h77
  clear D3
  have D3 := Lib.hid zz
  clear zz
  have zz := E3.out.below h77
  clear E3
  have E3 := Lib.hid zz
  clear zz
  have zz := SX3.out.below h77
  clear SX3
  have SX3 := Lib.hid zz
  clear zz
  have zz := SZ3.out.below h77
  clear SZ3
  have SZ3 := Lib.hid zz
  clear zz
  have zz := ST3.out.below h77
  clear ST3
  have ST3 := Lib.hid zz
  clear zz
  have zz := S3.out.below h77
  clear S3
  have S3 := Lib.hid zz
  clear zz
  have zz := G1.out.below h77
  clear G1
  have G1 := Lib.hid zz
  clear zz
  have zz := G2.out.below h77
  clear G2
  have G2 := Lib.hid zz
  clear zz
  have zz := G3.out.below h77
  clear G3
  have G3 := Lib.hid zz
  clear zz
  have zz := G4.out.below h77
  clear G4
  have G4 := Lib.hid zz
  clear zz
  have zz := Rg.stable_row h77 RG.out
  clear RG
  have RG := Lib.hid zz
  clear zz
  clear h77
  generalize WF.drew = WE at RK RH BB T3 D3 E3 SX3 SZ3 ST3 S3 G1 G2 G3 G4 RG ⊢
  have HWH := Lib.hid (show hb < WE.heap.size from row?_lt RH.out)
  have HWK := Lib.hid (show w.heap.size < WE.heap.size from row?_lt RK.out)
  have TT0 := Lib.hid (show Sl WE (.slice (cutA ab 0 cb) j cb) (S.take j) from by
   have h := S3.out.cut 0 j (Nat.zero_le _) (by have := HJ.out; omega)
   rw [Nat.sub_zero, Nat.sub_zero, List.drop_zero] at h
   exact h)
  obtain ⟨q, hq⟩ : ∃ q, OV (S.take j) (n64 u) true = q := ⟨_, rfl⟩
  refine Rg.phase_spare (w0 := WE) [⟨0, 81, [], [], none, [], [0, 0], (Rg.At 0 0 (Rg.JC (.agg (bvs KB))))⟩, ⟨4, 85, [], [], none, [], [4, 4], (Rg.At 4 4 (Rg.JC (.int .i64 (S.length : Nat))))⟩, ⟨5, 86, [4], [4], none, [], [5, 5], (Rg.At 5 5 (Rg.JC (.int .i64 (j : Nat))))⟩, ⟨6, 87, [5], [5], none, [], [6, 6], (Rg.At 6 6 (Rg.JC (.slice (cutA ab 0 cb) j cb)))⟩, ⟨7, 88, [5, 6], [6], none, [], [7, 7], (Rg.At 7 7 (Rg.JA 5 (S.take j)))⟩, ⟨10, 91, [0, 7], [0, 7], none, [], [10, 10], (Rg.At 10 10 (JOpen q))⟩, ⟨11, 80, [10], [10], none, [], [11, 10], (Rg.At 11 10 (JOpen q))⟩, ⟨12, 92, [11], [11], none, [], [12, 10], (Rg.At 12 10 (JHdr q.1))⟩, ⟨13, 93, [11], [11], none, [], [13, 10], (Rg.At 13 10 (Rg.JA 5 q.2.1))⟩, ⟨14, 94, [11], [11], none, [], [14, 10], (Rg.At 14 10 (Rg.JC (.int .i64 q.2.2)))⟩, ⟨15, 21, [], [], none, [], [15, 15], (Rg.At 15 15 (Rg.JV (hvA false 0 0 (.slice none 0 0) (.slice none 0 0) (.slice none 0 0) false false 0 0)))⟩, ⟨16, 100016, [0, 4, 5, 6, 7, 10, 11, 12, 15], [15, 12], (some 15), [15], [16, 15, 12], (Rg.JSt 15 12)⟩, ⟨17, 22, [0, 4, 5, 6, 7, 10, 11, 12, 13, 15, 16], [13], none, [], [17, 10], (Rg.At 17 10 (Rg.JA 5 q.2.1))⟩, ⟨18, 23, [0, 4, 5, 6, 7, 10, 11, 12, 13, 14, 15, 16, 17], [14], none, [], [18, 10], (Rg.At 18 10 (Rg.JC (.int .i64 q.2.2)))⟩] rfl (by kernel_rfl) ?_ ?_ ?_ ?_ ?_
  ·exact List.forall_mem_cons.2 ⟨Rg.At.congr (i := 0) (k := 0) (J := (Rg.JC (.agg (bvs KB)))), List.forall_mem_cons.2 ⟨Rg.At.congr (i := 4) (k := 4) (J := (Rg.JC (.int .i64 (S.length : Nat)))), List.forall_mem_cons.2 ⟨Rg.At.congr (i := 5) (k := 5) (J := (Rg.JC (.int .i64 (j : Nat)))), List.forall_mem_cons.2 ⟨Rg.At.congr (i := 6) (k := 6) (J := (Rg.JC (.slice (cutA ab 0 cb) j cb))), List.forall_mem_cons.2 ⟨Rg.At.congr (i := 7) (k := 7) (J := (Rg.JA 5 (S.take j))), List.forall_mem_cons.2 ⟨Rg.At.congr (i := 10) (k := 10) (J := (JOpen q)), List.forall_mem_cons.2 ⟨Rg.At.congr (i := 11) (k := 10) (J := (JOpen q)), List.forall_mem_cons.2 ⟨Rg.At.congr (i := 12) (k := 10) (J := (JHdr q.1)), List.forall_mem_cons.2 ⟨Rg.At.congr (i := 13) (k := 10) (J := (Rg.JA 5 q.2.1)), List.forall_mem_cons.2 ⟨Rg.At.congr (i := 14) (k := 10) (J := (Rg.JC (.int .i64 q.2.2))), List.forall_mem_cons.2 ⟨Rg.At.congr (i := 15) (k := 15) (J := (Rg.JV (hvA false 0 0 (.slice none 0 0) (.slice none 0 0) (.slice none 0 0) false false 0 0))), List.forall_mem_cons.2 ⟨Rg.JSt.congr, List.forall_mem_cons.2 ⟨Rg.At.congr (i := 17) (k := 10) (J := (Rg.JA 5 q.2.1)), List.forall_mem_cons.2 ⟨Rg.At.congr (i := 18) (k := 10) (J := (Rg.JC (.int .i64 q.2.2))), fun r hr => (by cases hr)⟩⟩⟩⟩⟩⟩⟩⟩⟩⟩⟩⟩⟩⟩
  ·exact List.forall_mem_cons.2 ⟨Rg.At.sb (i := 0) (k := 0) Rg.JC.sb, List.forall_mem_cons.2 ⟨Rg.At.sb (i := 4) (k := 4) Rg.JC.sb, List.forall_mem_cons.2 ⟨Rg.At.sb (i := 5) (k := 5) Rg.JC.sb, List.forall_mem_cons.2 ⟨Rg.At.sb (i := 6) (k := 6) Rg.JC.sb, List.forall_mem_cons.2 ⟨Rg.At.sb (i := 7) (k := 7) Rg.JA.sb, List.forall_mem_cons.2 ⟨Rg.At.sb (i := 10) (k := 10) JOpen.sb, List.forall_mem_cons.2 ⟨Rg.At.sb (i := 11) (k := 10) JOpen.sb, List.forall_mem_cons.2 ⟨Rg.At.sb (i := 12) (k := 10) JHdr.sb, List.forall_mem_cons.2 ⟨Rg.At.sb (i := 13) (k := 10) Rg.JA.sb, List.forall_mem_cons.2 ⟨Rg.At.sb (i := 14) (k := 10) Rg.JC.sb, List.forall_mem_cons.2 ⟨Rg.At.sb (i := 15) (k := 15) Rg.JV.sb, List.forall_mem_cons.2 ⟨Rg.JSt.sb, List.forall_mem_cons.2 ⟨Rg.At.sb (i := 17) (k := 10) Rg.JA.sb, List.forall_mem_cons.2 ⟨Rg.At.sb (i := 18) (k := 10) Rg.JC.sb, fun r hr => (by cases hr)⟩⟩⟩⟩⟩⟩⟩⟩⟩⟩⟩⟩⟩⟩
  ·refine List.forall_mem_cons.2 ⟨fun _ _ s _ _ _ _ => Rg.At.ss (i := 0) (k := 0) Rg.JC.ss s, List.forall_mem_cons.2 ⟨fun _ _ s _ _ _ _ => Rg.At.ss (i := 4) (k := 4) Rg.JC.ss s, List.forall_mem_cons.2 ⟨fun _ _ s _ _ _ _ => Rg.At.ss (i := 5) (k := 5) Rg.JC.ss s, List.forall_mem_cons.2 ⟨fun _ _ s _ _ _ _ => Rg.At.ss (i := 6) (k := 6) Rg.JC.ss s, List.forall_mem_cons.2 ⟨fun _ _ s _ _ _ _ => Rg.At.ss (i := 7) (k := 7) Rg.JA.ss s, List.forall_mem_cons.2 ⟨fun _ _ s _ _ _ _ => Rg.At.ss (i := 10) (k := 10) JOpen.ss s, List.forall_mem_cons.2 ⟨fun _ _ s _ _ _ _ => Rg.At.ss (i := 11) (k := 10) JOpen.ss s, List.forall_mem_cons.2 ⟨fun _ _ s _ _ _ _ => Rg.At.ss (i := 12) (k := 10) JHdr.ss s, List.forall_mem_cons.2 ⟨fun _ _ s _ _ _ _ => Rg.At.ss (i := 13) (k := 10) Rg.JA.ss s, List.forall_mem_cons.2 ⟨fun _ _ s _ _ _ _ => Rg.At.ss (i := 14) (k := 10) Rg.JC.ss s, List.forall_mem_cons.2 ⟨fun _ _ s _ _ _ _ => Rg.At.ss (i := 15) (k := 15) Rg.JV.ss s, List.forall_mem_cons.2 ⟨fun _ _ s _ _ _ _ => Rg.JSt.ss s, List.forall_mem_cons.2 ⟨fun _ _ s _ _ _ _ => Rg.At.ss (i := 17) (k := 10) Rg.JA.ss s, List.forall_mem_cons.2 ⟨fun _ _ s _ _ _ _ => Rg.At.ss (i := 18) (k := 10) Rg.JC.ss s, fun r hr => (by cases hr)⟩⟩⟩⟩⟩⟩⟩⟩⟩⟩⟩⟩⟩⟩
  ·refine List.forall_mem_cons.2 ⟨?_, List.forall_mem_cons.2 ⟨?_, List.forall_mem_cons.2 ⟨?_, List.forall_mem_cons.2 ⟨?_, List.forall_mem_cons.2 ⟨?_, List.forall_mem_cons.2 ⟨?_, List.forall_mem_cons.2 ⟨?_, List.forall_mem_cons.2 ⟨?_, List.forall_mem_cons.2 ⟨?_, List.forall_mem_cons.2 ⟨?_, List.forall_mem_cons.2 ⟨?_, List.forall_mem_cons.2 ⟨?_, List.forall_mem_cons.2 ⟨?_, List.forall_mem_cons.2 ⟨?_, fun r hr => (by cases hr)⟩⟩⟩⟩⟩⟩⟩⟩⟩⟩⟩⟩⟩⟩
   ·with_reducible refine Rg.es_load 0 81 [] [] [] (t := 25) (x := (.tmp 7)) (xv := (.pointer (some ⟨w.heap.size, 0, none⟩))) (v := (.agg (bvs KB))) ?_ ?_ ?_ ?_
    ·kernel_rfl
    ·kernel_rfl
    ·intro us; kernel_rfl
    ·exact fun w hb => rldK w _ _ (Rg.row_below hb RK.out HWK.out) hKl
   ·with_reducible refine Rg.es_len 4 85 [] [] [] (x := (.tmp 84)) (ts := #[27]) (xv := (.slice ab S.length cb)) (n := ((S.length : Nat) : Int)) ?_ ?_ ?_ ?_
    ·kernel_rfl
    ·kernel_rfl
    ·intro us; kernel_rfl
    ·intro w; simp [go_sem]
   ·with_reducible refine Rg.es_call 5 86 [] [4] [4] [5, 5] (Rg.JC (.int .i64 (j : Nat))) (f := 21) (xs := #[.tmp 83, .tmp 85]) (ts := #[3, 3]) (args := fun us => #[.int .i64 cut0, us 4]) ?_ (fun args w => ?_) ?_ ?_ ?_
    ·kernel_rfl
    ·kernel_rfl
    ·kernel_rfl
    ·intro us; kernel_rfl
    ·intro us lo hi w hb hdep
     have e4 : us 4 = .int .i64 (S.length : Nat) := (hdep _ (List.getElem_mem (n := 1) (by simp)) (by simp)).1
     show Calls Try.prog _ #[.int .i64 cut0, us 4] w _
     rw [e4]
     refine (HLO.out w).mono ?_
     rintro e w' ⟨rfl, rfl⟩
     exact ⟨_, rfl, rfl, Below.refl _ _⟩
   ·with_reducible refine Rg.es_slice 6 87 [] [5] ⟨5, 86, [4], [4], none, [], [5, 5], (Rg.At 5 5 (Rg.JC (.int .i64 (j : Nat))))⟩ 5 5 (t := 27) (x := (.tmp 82)) (y := (.tmp 86)) (xv := (.slice ab S.length cb)) (yv := (.int .i64 (j : Nat))) (v := (.slice (cutA ab 0 cb) j cb)) ?_ ?_ ?_ ?_ ?_ ?_ ?_ ?_
    ·kernel_rfl
    ·kernel_rfl
    ·intro us; kernel_rfl
    ·intro us; kernel_rfl
    ·exact (List.getElem_mem (n := 2) (by simp))
    ·rfl
    ·rfl
    ·intro w; rw [cut_h TB w _ _ _ _ _ (by omega) (by have := HJ.out; have := HCB.out; omega)]; rfl
   ·with_reducible refine Rg.es_app0 7 88 [] [5, 6] [6] (t := 27) (e := 5) (inf := i0) (x := (.tmp 87)) (xv := fun us => us 6) (S.take j) ?_ ?_ Try.underlying27 hi hz0 hz1 hz2 ?_ ?_ ?_
    ·kernel_rfl
    ·kernel_rfl
    ·intro us; kernel_rfl
    ·have := HSB.out; simp; omega
    ·intro us lo hi w hb hdep
     have e6 : us 6 = .slice (cutA ab 0 cb) j cb := (hdep _ (List.getElem_mem (n := 3) (by simp)) (by simp)).1
     rw [e6]
     exact TT0.out.below hb
   ·with_reducible refine Rg.es_call 10 91 [] [0, 7] [0, 7] [10, 10] (JOpen q) (f := 14) (xs := #[.tmp 81, .tmp 88, .tmp 90, .const (.bool true)]) (ts := #[25, 27, 28, 4]) (args := fun us => #[us 0, us 7, .int .u64 (n64 u : Nat), .bool true]) ?_ (fun args w => ?_) ?_ ?_ ?_
    ·kernel_rfl
    ·kernel_rfl
    ·kernel_rfl
    ·intro us; kernel_rfl
    ·intro us lo hi w hb hdep
     have e0 : us 0 = .agg (bvs KB) := (hdep _ (List.getElem_mem (n := 0) (by simp)) (by simp)).1
     have e4 : w.ownsRow (lo 7) 5 1 (us 7) (S.take j).length ((S.take j).map bv) := (hdep _ (List.getElem_mem (n := 4) (by simp)) (by simp)).1.1
     show Calls Try.prog _ #[us 0, us 7, .int .u64 (n64 u : Nat), .bool true] w _
     rw [e0]
     refine (HOP.out (S.take j) (by have := HSB.out; have := HL.out; simp; omega) w (us 7) (Own.sl e4)).mono ?_
     rw [hq]
     intro e w' h
     exact h.J
   ·with_reducible refine Rg.es_mv 11 80 [] [10] ⟨10, 91, [0, 7], [0, 7], none, [], [10, 10], (Rg.At 10 10 (JOpen q))⟩ 10 10 (JOpen q) (x := (.tmp 91)) ?_ ?_ ?_ ?_ ?_ ?_ ?_
    ·kernel_rfl
    ·exact .inl (by kernel_rfl)
    ·intro us; kernel_rfl
    ·exact (List.getElem_mem (n := 5) (by simp))
    ·rfl
    ·rfl
    ·decide
   ·with_reducible refine Rg.es_ext 12 92 [] [11] ⟨11, 80, [10], [10], none, [], [11, 10], (Rg.At 11 10 (JOpen q))⟩ 11 10 (JOpen q) (JHdr q.1) (x := (.tmp 80)) (ix := 0) ?_ ?_ ?_ ?_ ?_ ?_ ?_ JOpen.e0
    ·kernel_rfl
    ·kernel_rfl
    ·intro us; kernel_rfl
    ·exact (List.getElem_mem (n := 6) (by simp))
    ·rfl
    ·rfl
    ·decide
   ·with_reducible refine Rg.es_ext 13 93 [] [11] ⟨11, 80, [10], [10], none, [], [11, 10], (Rg.At 11 10 (JOpen q))⟩ 11 10 (JOpen q) (Rg.JA 5 q.2.1) (x := (.tmp 80)) (ix := 1) ?_ ?_ ?_ ?_ ?_ ?_ ?_ JOpen.e1
    ·kernel_rfl
    ·kernel_rfl
    ·intro us; kernel_rfl
    ·exact (List.getElem_mem (n := 6) (by simp))
    ·rfl
    ·rfl
    ·decide
   ·with_reducible refine Rg.es_ext 14 94 [] [11] ⟨11, 80, [10], [10], none, [], [11, 10], (Rg.At 11 10 (JOpen q))⟩ 11 10 (JOpen q) (Rg.JC (.int .i64 q.2.2)) (x := (.tmp 80)) (ix := 2) ?_ ?_ ?_ ?_ ?_ ?_ ?_ JOpen.e2
    ·kernel_rfl
    ·kernel_rfl
    ·intro us; kernel_rfl
    ·exact (List.getElem_mem (n := 6) (by simp))
    ·rfl
    ·rfl
    ·decide
   ·with_reducible refine Rg.es_alloc 15 21 [] [] [] (t := 30) (Z := (hvA false 0 0 (.slice none 0 0) (.slice none 0 0) (.slice none 0 0) false false 0 0)) ?_ ?_ ?_
    ·kernel_rfl
    ·kernel_rfl
    ·exact fun w => (congrArg (Sem.run Try.prog · w) (alH ..)).trans (ralH ..)
   ·with_reducible refine Rg.es_store 16 100016 [15] [0, 4, 5, 6, 7, 10, 11, 12, 15] ⟨15, 21, [], [], none, [], [15, 15], (Rg.At 15 15 (Rg.JV (hvA false 0 0 (.slice none 0 0) (.slice none 0 0) (.slice none 0 0) false false 0 0)))⟩ ⟨12, 92, [11], [11], none, [], [12, 10], (Rg.At 12 10 (JHdr q.1))⟩ 15 12 10 (JHdr q.1) (fun H => H.size = 10 ∧ allOne H = true) (t := 30) (Z := (hvA false 0 0 (.slice none 0 0) (.slice none 0 0) (.slice none 0 0) false false 0 0)) (x := (.tmp 21)) (y := (.tmp 92)) ?_ ?_ ?_ ?_ ?_ ?_ ?_ ?_ ?_ ?_ ?_ ?_ ?_ JHdr.agg ?_
    ·kernel_rfl
    ·kernel_rfl
    ·kernel_rfl
    ·intro us; kernel_rfl
    ·intro us; kernel_rfl
    ·exact (List.getElem_mem (n := 10) (by simp))
    ·rfl
    ·rfl
    ·exact (List.getElem_mem (n := 7) (by simp))
    ·rfl
    ·rfl
    ·decide
    ·decide
    ·exact fun w b H h1 h2 => (congrArg (Sem.run Try.prog · w) (stH ..)).trans (rstH w b H (by rw [h1]; rfl) h2.1 h2.2)
   ·with_reducible refine Rg.es_mv 17 22 [] [0, 4, 5, 6, 7, 10, 11, 12, 13, 15, 16] ⟨13, 93, [11], [11], none, [], [13, 10], (Rg.At 13 10 (Rg.JA 5 q.2.1))⟩ 13 10 (Rg.JA 5 q.2.1) (x := (.tmp 93)) ?_ ?_ ?_ ?_ ?_ ?_ ?_
    ·kernel_rfl
    ·exact .inr (by kernel_rfl)
    ·intro us; kernel_rfl
    ·exact (List.getElem_mem (n := 8) (by simp))
    ·rfl
    ·rfl
    ·decide
   ·with_reducible refine Rg.es_mv 18 23 [] [0, 4, 5, 6, 7, 10, 11, 12, 13, 14, 15, 16, 17] ⟨14, 94, [11], [11], none, [], [14, 10], (Rg.At 14 10 (Rg.JC (.int .i64 q.2.2)))⟩ 14 10 (Rg.JC (.int .i64 q.2.2)) (x := (.tmp 94)) ?_ ?_ ?_ ?_ ?_ ?_ ?_
    ·kernel_rfl
    ·exact .inr (by kernel_rfl)
    ·intro us; kernel_rfl
    ·exact (List.getElem_mem (n := 9) (by simp))
    ·rfl
    ·rfl
    ·decide
  ·intro us lo hi WG hX hJ hbd hdj
   have j1 : Rg.JSt 15 12 us lo hi WG := hJ _ (List.getElem_mem (n := 11) (by simp)) (by simp)
   have j2 : JHdr q.1 (us 12) (lo 10) (hi 10) WG := hJ _ (List.getElem_mem (n := 7) (by simp)) (by simp)
   have j3 : Rg.JA 5 q.2.1 (us 17) (lo 10) (hi 10) WG := hJ _ (List.getElem_mem (n := 12) (by simp)) (by simp)
   have j4 : us 18 = .int .i64 q.2.2 := hJ _ (List.getElem_mem (n := 13) (by simp)) (by simp)
   have d1 : hi 10 ≤ lo 15 ∨ hi 15 ≤ lo 10 := hdj _ (List.getElem_mem (n := 5) (by simp)) _ (List.getElem_mem (n := 10) (by simp)) (by simp)
   have b1 : WE.heap.size ≤ lo 15 ∧ lo 15 ≤ hi 15 ∧ hi 15 ≤ WG.heap.size := hbd _ (List.getElem_mem (n := 10) (by simp))
   clear hJ hbd hdj
   simp only [Rg.puts, List.map_cons, List.map_nil]
   obtain ⟨H, e9, e12, hb12, hrow⟩ := j1
   obtain ⟨⟨ra1, rc1, ra2, rc2, ra3, rc3, e9', g1, g2, g3, -, -, -⟩⟩ := JHdr.inn (b := lo 15) j2 (by omega)
   rw [e9] at e9' ⊢
   injection e9' with e9'
   subst e9'
   obtain ⟨o4, -⟩ := j3
   have g4 := Own.sl o4
   clear o4
   have hqe : q = (hd0, [], 3) := hq.symm.trans (HSC.out j HJ.out)
   subst hqe
   dsimp only at g1 g2 g3 g4 hrow j4
   rw [e12, j4]
   generalize us 17 = v4 at g4 ⊢
   obtain ⟨ra4, rc4, rfl, -, -, -⟩ := id g4
   have hgb := b1.1
   generalize lo 15 = gh at hgb hrow ⊢
   clear e12 j4 e9 j2 d1 b1 hb12 hq
   generalize us 0 = u0
   generalize us 4 = u4
   generalize us 5 = u5
   generalize us 6 = u6
   generalize us 7 = u7
   generalize us 10 = u10
   generalize us 11 = u11
   generalize us 13 = u13
   generalize us 14 = u14
   generalize us 16 = u16
   clear us lo hi
   have xk := Rg.stable_row hX RK.out
   have xr := Rg.stable_row hX RH.out
   have xb := BB.out.trans (hX.mono BB.out.size)
   clear RK RH BB
   have RK := Lib.hid xk
   have RH := Lib.hid xr
   have BB := Lib.hid xb
   clear xk xr xb
   have zz := T3.out.below hX
   clear T3
   have T3 := Lib.hid zz
   clear zz
   have zz := D3.out.below hX
   clear D3
   have D3 := Lib.hid zz
   clear zz
   have zz := E3.out.below hX
   clear E3
   have E3 := Lib.hid zz
   clear zz
   have zz := SX3.out.below hX
   clear SX3
   have SX3 := Lib.hid zz
   clear zz
   have zz := SZ3.out.below hX
   clear SZ3
   have SZ3 := Lib.hid zz
   clear zz
   have zz := ST3.out.below hX
   clear ST3
   have ST3 := Lib.hid zz
   clear zz
   have zz := S3.out.below hX
   clear S3
   have S3 := Lib.hid zz
   clear zz
   have zz := G1.out.below hX
   clear G1
   have G1 := Lib.hid zz
   clear zz
   have zz := G2.out.below hX
   clear G2
   have G2 := Lib.hid zz
   clear zz
   have zz := G3.out.below hX
   clear G3
   have G3 := Lib.hid zz
   clear zz
   have zz := G4.out.below hX
   clear G4
   have G4 := Lib.hid zz
   clear zz
   have zz := Rg.stable_row hX RG.out
   clear RG
   have RG := Lib.hid zz
   clear zz
   have RQ := Lib.hid hrow
   have HB := Lib.hid (show w.heap.size < gh ∧ hb < gh from ⟨Nat.lt_of_lt_of_le HWK.out hgb, Nat.lt_of_lt_of_le HWH.out hgb⟩)
   have H1 := Lib.hid g1
   have H2 := Lib.hid g2
   have H3 := Lib.hid g3
   have H4 := Lib.hid g4
   clear g1 g2 g3 g4 hX hgb hrow HWK HWH
   have rg : (loadAgg 30 (.pointer (some ⟨gb, 0, none⟩))).run Try.prog WG = .ok (.agg (hvA true 0 ver.toNat (.slice pa1 d8.length pc1) (.slice pa2 s3.length pc2) (.slice pa3 tok.length pc3) false false (n64 u) 4)) WG := by rw [rldH WG _ (by rw [RG.out]; rfl), RG.out]; rfl
   have rh : (loadAgg 30 (.pointer (some ⟨hb, 0, none⟩))).run Try.prog WG = .ok (.agg (hvA true 0 ver.toNat (.slice (some ⟨db, 0, none⟩) 8 8) (.slice (some ⟨sb, 0, none⟩) 3 3) (.slice ta tok.length tc) false false (n64 u) 4)) WG := by rw [rldH WG _ (by rw [RH.out]; rfl), RH.out]; rfl
   go_wp2_with (first
    |(with_reducible refine Rg.plan_pure ?_ ?_ ?_); kernel_rfl; kernel_rfl; intro _ _|(with_reducible refine Rg.plan_take ?_ ?_ ?_); kernel_rfl; kernel_rfl; intro _ _|(with_reducible refine Rg.plan_keep ?_ ?_); kernel_rfl; intro K hK|refine hK _ _ (Rg.Keep.refl _) ?_; clear hK|refine hK _ _ (Rg.Keep.of_below (by assumption)) ?_; clear hK|(with_reducible refine Rg.plan_skip ?_ ?_); kernel_rfl|(with_reducible refine Rg.plan_done ?_)|(with_reducible refine Rg.calm_normal ?_))
   refine (sameHeader_eq true 0 ver.toNat false false (n64 u) 4 d8 s3 tok (by decide) (by decide) (by have := HL.out; omega) _ _ _ _ _ _ WG G1.out D3.out G2.out E3.out G3.out T3.out).mono ?_
   rintro e wG ⟨rfl, hg⟩
   have xb := BB.out.trans (hg.mono BB.out.size)
   clear rg rh
   go_wp2_with fail
   have hsb := same_any text text (by have := HL.out; omega) _ _ wG (G4.out.below hg) (SX3.out.below hg)
   rw [decide_eq_true rfl] at hsb
   refine hsb.mono ?_
   rintro e wH ⟨rfl, hh⟩
   have xb2 := xb.trans (hh.mono xb.size)
   clear hsb
   go_wp2_with fail
   refine (awake_any _).mono ?_
   rintro e wI ⟨rfl, hk⟩
   go_wp2_with fail
   go_ret
   exact ⟨rfl, xb2.trans (hk.mono xb2.size)⟩
end Go.Proofs.Ytjlpppnpdgenfaa
