/- HdrW15; HdrR4; HdrTe; VltI. -/
import Derived.Test.YtjlpppnpdgenfaaMvbHdrW4
import Derived.Test.YtjlpppnpdgenfaaMvbHdrP
import Derived.Test.YtjlpppnpdgenfaaMvbHdrPR
import Derived.Test.YtjlpppnpdgenfaaMvbHdrT1
import Derived.Test.YtjlpppnpdgenfaaMvb17
import Derived.Test.YtjlpppnpdgenfaaMvb19
import Derived.Test.YtjlpppnpdgenfaaMvbGcmW7
import Derived.Test.YtjlpppnpdgenfaaMvb13
import Derived.Test.YtjlpppnpdgenfaaMvb16
import Derived.Test.YtjlpppnpdgenfaaMvbHdrW12
import Derived.Test.YtjlpppnpdgenfaaMvb18
section
namespace Go.Proofs.Ytjlpppnpdgenfaa
open Go.RowKit Go.Rw Hdr
attribute [local go_sem ↓] ldH stH alH shift_shl8 shift_shr8 shift_shl64 shift_shr64
attribute [local go_sem] rldH rstH ralH setRow_alloc_at setRow_alloc_past setRow_drew
end Go.Proofs.Ytjlpppnpdgenfaa

end
section
namespace Hdr
open Go.Rw
theorem rfirst {spin phase : Bool} {nl : Nat} (h1 : 1 ≤ nl) (h4 : nl ≤ 4) : 64 ||| (if spin then 32 else 0) ||| (if phase then 4 else 0) ||| UInt8.ofInt ((nl : Int) - 1) = first spin phase nl := by
 have : nl = 1 ∨ nl = 2 ∨ nl = 3 ∨ nl = 4 := by omega
 cases spin <;> cases phase <;> rcases this with rfl | rfl | rfl | rfl <;> decide
end Hdr
namespace Go.Proofs.Ytjlpppnpdgenfaa
open Go.RowKit Go.Rw Hdr
theorem lit6 (F : UInt8) (ver m : Nat) (hm : m < 256) : ([F] ++ be ver 4 ++ [UInt8.ofNat m]).map bv = (#[.int .u8 (n8 F : Nat), .int .u8 ((ver : Int) / 16777216 % 256), .int .u8 ((ver : Int) / 65536 % 256), .int .u8 ((ver : Int) / 256 % 256), .int .u8 ((ver : Int) % 256), .int .u8 (m : Nat)] : Array Value).toList := by
 simp [be, List.range, List.range.loop, bv]
 refine ⟨rfl, by omega⟩
theorem rlongF {kind : Int} {nl : Nat} (hk : kind = 0 ∨ kind = 2) (h1 : 1 ≤ nl) (h4 : nl ≤ 4) : 192 ||| UInt8.ofInt (kind % 256 * 16 % 256) ||| UInt8.ofInt ((nl : Int) - 1) = longF kind nl := by
 have : nl = 1 ∨ nl = 2 ∨ nl = 3 ∨ nl = 4 := by omega
 rcases hk with rfl | rfl <;> rcases this with rfl | rfl | rfl | rfl <;> decide
attribute [local go_sem ↓] hvA_0 hvA_1 hvA_2 hvA_3 hvA_4 hvA_5 hvA_6 hvA_7 hvA_8 hvA_9
attribute [local go_sem ↓] ldH stH alH bdR bdH shift_shl8 shift_shr8 shift_shl64 shift_shr64
attribute [local go_sem] rldH rstH ralH setRow_alloc_at setRow_alloc_past setRow_drew
set_option maxRecDepth 100000 in
set_option maxHeartbeats 4000000 in
theorem rputO_short (dst : List UInt8) (hd : dst.length = 8) (vd : Value) (as_ at_ : Option Addr) (cs ct : Nat) (sp ph : Bool) (num : Nat) (nl : Nat) (rest : Int) (h1 : 1 ≤ nl) (h4 : nl ≤ 4) (hn : (num : Int) ≤ 4611686018427387903) (hr0 : 0 ≤ rest) (hr1 : rest ≤ 16383 - (nl : Int)) (w : World) (hsd : Sl w vd dst) :
  Calls Try.prog 33 #[.agg (hvA false 0 0 vd (.slice as_ 0 cs) (.slice at_ 0 ct) sp ph num nl), .int .i64 rest] w fun e w' => ∃ v, e = .returned (.tuple #[v, .int .i64 0]) ∧ w'.ownsRow w.heap.size 5 1 v ([first sp ph nl] ++ dst ++ be num nl).length (([first sp ph nl] ++ dst ++ be num nl).map bv) ∧ Below w.heap.size w w' := by
 obtain ⟨ad, cd, rfl, -, -, -⟩ := id hsd
 obtain ⟨i0, hi, hz0, hz1, hz2⟩ := info_parts info8
 have hm : mayN false 0 0 dst.length 0 0 sp ph num nl = true := by
  unfold mayN
  rw [if_neg (by omega), if_pos rfl]
  exact decide_eq_true ⟨rfl, rfl, rfl, rfl⟩
 have hmay := fun W => rmay_any false 0 0 ad as_ at_ dst.length 0 0 cd cs ct sp ph num nl W
 rw [hm] at hmay
 have HM := Lib.hid hmay
 have HN := Lib.hid hn
 have HD := Lib.hid hd
 have HSD := Lib.hid hsd
 have HF := Lib.hid (rfirst (spin := sp) (phase := ph) h1 h4)
 obtain ⟨F, hF⟩ : ∃ F, first sp ph nl = F := ⟨_, rfl⟩
 obtain ⟨BB, hBB⟩ : ∃ BB, [first sp ph nl] ++ dst ++ be num nl = BB := ⟨_, rfl⟩
 rw [hBB]
 rw [hF] at hBB
 have HFF := Lib.hid hF
 have HBB := Lib.hid hBB
 have g2 : ¬ (16383 - (nl : Int) < rest) := by omega
 have g1 : ¬ rest < 0 := by omega
 have hr1' : row? (w.alloc (.cells (hvA false 0 0 (.slice ad dst.length cd) (.slice as_ 0 cs) (.slice at_ 0 ct) sp ph num nl) 30)) w.heap.size = some (hvA false 0 0 (.slice ad dst.length cd) (.slice as_ 0 cs) (.slice at_ 0 ct) sp ph num nl) := row?_alloc_at _ _ _ _ rfl
 have HR1 := Lib.hid hr1'
 clear hm hmay hn hd hsd hF hBB hr1'
 go_enter Try.func33, Try.ntmps33
 go_wp2_with fail
 refine (HM.out _).mono ?_
 rintro e w1 ⟨rfl, hb1⟩
 have r1 := Rg.stable_row hb1 HR1.out
 have b1 : Below w.heap.size w w1 := ((Below.refl w.heap.size w).alloc (Nat.le_refl _) _).trans (hb1.mono (by simp))
 have c0 : w1.cell? ⟨w.heap.size, 0, none⟩ = some (.bool false) := row?_cell r1 0
 have c3 : w1.cell? ⟨w.heap.size, 3, none⟩ = some (.slice ad dst.length cd) := row?_cell r1 3
 have c6 : w1.cell? ⟨w.heap.size, 6, none⟩ = some (.bool sp) := row?_cell r1 6
 have c7 : w1.cell? ⟨w.heap.size, 7, none⟩ = some (.bool ph) := row?_cell r1 7
 have c9 : w1.cell? ⟨w.heap.size, 9, none⟩ = some (.int .i64 (nl : Nat)) := row?_cell r1 9
 have zr := row?_lt r1
 have R1 := Lib.hid r1
 have B1 := Lib.hid b1
 clear r1 hb1 b1 HM HR1
 have G5 := Lib.hid (fun W => rbit5 sp W)
 have G2 := Lib.hid (fun W => rbit2 ph W)
 have hff := HF.out
 generalize (if sp = true then (32 : UInt8) else 0) = fs at G5 hff
 generalize (if ph = true then (4 : UInt8) else 0) = fp at G2 hff
 rw [HFF.out] at hff
 have HFE := Lib.hid hff
 clear hff HF
 go_wp2_with fail
 refine Rg.wp_region_plan (Rg.row [(0, 3), (1, 0), (4, 3), (5, 0), (8, 3), (9, 0), (10, 3), (11, 3), (14, 3), (15, 0), (2, 1), (3, 3), (6, 1), (7, 3), (12, 3), (13, 1)] [16, 17]) [16, 17] (by kernel_rfl) (by kernel_rfl) ?_
 simp only [Rg.row, Rg.PT.map, List.map_cons, List.map_nil, List.getD_cons_zero, List.getD_cons_succ]
 go_wp2_with (first
  |(with_reducible refine Rg.plan_pure ?_ ?_ ?_); kernel_rfl; kernel_rfl; intro _ _|(with_reducible refine Rg.plan_take ?_ ?_ ?_); kernel_rfl; kernel_rfl; intro _ _|(with_reducible refine Rg.plan_keep ?_ ?_); kernel_rfl; intro K hK|refine hK _ _ (Rg.Keep.refl _) ?_; clear hK|refine hK _ _ (Rg.Keep.of_below (by assumption)) ?_; clear hK|(with_reducible refine Rg.plan_skip ?_ ?_); kernel_rfl|(with_reducible refine Rg.plan_done ?_)|(with_reducible refine Rg.calm_normal ?_))
 refine (G5.out _).mono ?_
 rintro e w' ⟨rfl, rfl⟩
 go_wp2_with (first
  |(with_reducible refine Rg.plan_pure ?_ ?_ ?_); kernel_rfl; kernel_rfl; intro _ _|(with_reducible refine Rg.plan_take ?_ ?_ ?_); kernel_rfl; kernel_rfl; intro _ _|(with_reducible refine Rg.plan_keep ?_ ?_); kernel_rfl; intro K hK|refine hK _ _ (Rg.Keep.refl _) ?_; clear hK|refine hK _ _ (Rg.Keep.of_below (by assumption)) ?_; clear hK|(with_reducible refine Rg.plan_skip ?_ ?_); kernel_rfl|(with_reducible refine Rg.plan_done ?_)|(with_reducible refine Rg.calm_normal ?_))
 refine (G2.out _).mono ?_
 rintro e w' ⟨rfl, rfl⟩
 go_wp2_with (first
  |(with_reducible refine Rg.plan_pure ?_ ?_ ?_); kernel_rfl; kernel_rfl; intro _ _|(with_reducible refine Rg.plan_take ?_ ?_ ?_); kernel_rfl; kernel_rfl; intro _ _|(with_reducible refine Rg.plan_keep ?_ ?_); kernel_rfl; intro K hK|refine hK _ _ (Rg.Keep.refl _) ?_; clear hK|refine hK _ _ (Rg.Keep.of_below (by assumption)) ?_; clear hK|(with_reducible refine Rg.plan_skip ?_ ?_); kernel_rfl|(with_reducible refine Rg.plan_done ?_)|(with_reducible refine Rg.calm_normal ?_))
 rw [HFE.out]
 refine hK _ _ (Rg.Keep.of_below ((Below.refl _ _).alloc (Nat.le_refl _) _)) ?_
 clear hK
 have zd : w1.drew.heap.size = w1.heap.size := rfl
 have o2 : (w1.alloc (.cells #[.int .u8 (n8 F : Nat)] 5)).drew.ownsRow (w.heap.size + 1) 5 1 (.slice (some ⟨w1.heap.size, 0, none⟩) 1 1) [F].length ([F].map bv) := (World.ownsRow_lit (base := w.heap.size + 1) w1 #[.int .u8 (n8 F : Nat)] 1 (by omega) (by decide) (by simp)).drew
 have b2 : Below w1.heap.size w1 (w1.alloc (.cells #[.int .u8 (n8 F : Nat)] 5)).drew := ((Below.refl _ _).alloc (Nat.le_refl _) _).drew
 generalize (w1.alloc (.cells #[.int .u8 (n8 F : Nat)] 5)).drew = w2 at o2 b2 ⊢
 have r2 := Rg.stable_row b2 R1.out
 have y2 := B1.out.trans (b2.mono B1.out.size)
 have z2 := b2.size
 have R2 := Lib.hid r2
 have B2 := Lib.hid y2
 have O2 := Lib.hid o2
 have S2 := Lib.hid (HSD.out.below y2)
 clear r2 y2 o2 b2 R1 B1 c0 c3 c6 c7 c9
 go_wp2_with (first
  | (at_builtin; refine Classical.byContradiction ?_)
  |(with_reducible refine Rg.plan_pure ?_ ?_ ?_); kernel_rfl; kernel_rfl; intro _ _|(with_reducible refine Rg.plan_take ?_ ?_ ?_); kernel_rfl; kernel_rfl; intro _ _|(with_reducible refine Rg.plan_keep ?_ ?_); kernel_rfl; intro K hK|refine hK _ _ (Rg.Keep.refl _) ?_; clear hK|refine hK _ _ (Rg.Keep.of_below (by assumption)) ?_; clear hK|(with_reducible refine Rg.plan_skip ?_ ?_); kernel_rfl|(with_reducible refine Rg.plan_done ?_)|(with_reducible refine Rg.calm_normal ?_))
 intro hh; apply hh; clear hh
 refine app_sl rfl _ _ 27 rfl (w.heap.size + 1) 5 i0 Try.underlying27 hi hz0 hz1 hz2 (.slice (some ⟨w1.heap.size, 0, none⟩) 1 1) [F] rfl O2.out _ dst rfl S2.out (by have := HD.out; simp; omega) (by omega) ?_
 intro v3 w3 o3 g3
 have rw3 : row? w3 w.heap.size = some (hvA false 0 0 (.slice ad dst.length cd) (.slice as_ 0 cs) (.slice at_ 0 ct) sp ph num nl) := row_grown g3 R2.out (fun h => by have := (O2.out.lt _ h.symm).1; omega)
 have bw3 := B2.out.grown g3 B2.out.size (fun k hk => by have := (O2.out.lt k hk).1; omega)
 obtain ⟨L, hL⟩ : ∃ L, [F] ++ dst = L := ⟨_, rfl⟩
 have o3' : w3.ownsRow (w.heap.size + 1) 5 1 v3 L.length (L.map bv) := by rw [← hL]; simpa using o3
 have HLW := Lib.hid (show L.length ≤ 300 by rw [← hL]; have := HD.out; simp; omega)
 have HZZ := Lib.hid (show L ++ be num nl = BB by rw [← hL]; exact HBB.out)
 have OW := Lib.hid o3'
 have RW := Lib.hid rw3
 have BW := Lib.hid bw3
 clear o3 o3' g3 rw3 bw3 hL HBB R2 B2 O2 S2 HFE HFF
 obtain ⟨Z, hZ⟩ : ∃ Z, be num nl = Z := ⟨_, rfl⟩
 have hbl := be_length num nl
 have hstep := be_take_succ num nl
 have hzz := HZZ.out
 rw [hZ] at hbl hstep hzz
 have HST := Lib.hid hstep
 have HZ2 := Lib.hid hzz
 have HBE := Lib.hid hbl
 have c9 : w3.cell? ⟨w.heap.size, 9, none⟩ = some (.int .i64 (nl : Nat)) := row?_cell RW.out 9
 clear hstep hZ hzz hbl HZZ
 go_wp2_with (first
  |(with_reducible refine Rg.plan_pure ?_ ?_ ?_); kernel_rfl; kernel_rfl; intro _ _|(with_reducible refine Rg.plan_take ?_ ?_ ?_); kernel_rfl; kernel_rfl; intro _ _|(with_reducible refine Rg.plan_keep ?_ ?_); kernel_rfl; intro K hK|refine hK _ _ (Rg.Keep.refl _) ?_; clear hK|refine hK _ _ (Rg.Keep.of_below (by assumption)) ?_; clear hK|(with_reducible refine Rg.plan_skip ?_ ?_); kernel_rfl|(with_reducible refine Rg.plan_done ?_)|(with_reducible refine Rg.calm_normal ?_))
 go_loopw [6, 7] (fun v6 v7 wr => ∃ k : Nat, ∃ i : Int, k ≤ nl ∧ i + 1 + k = nl ∧ v7 = .int .i64 i ∧ wr.ownsRow (w.heap.size + 1) 5 1 v6 (L.length + k) ((L ++ Z.take k).map bv) ∧ row? wr w.heap.size = some (hvA false 0 0 (.slice ad dst.length cd) (.slice as_ 0 cs) (.slice at_ 0 ct) sp ph num nl) ∧ Below w.heap.size w wr) (fun _ v _ => (intOf v + 1).toNat)
 case atStart => exact ⟨0, (nl : Int) - 1, by omega, by omega, by first | rfl | simp, by simpa using OW.out, RW.out, BW.out⟩
 case round =>
  obtain ⟨k, i, hk, hik, rfl, how, hrw, hb⟩ := hrel
  have HO := Lib.hid how
  have HRW := Lib.hid hrw
  have HB := Lib.hid hb
  have zr := row?_lt hrw
  clear how hrw hb c9
  by_cases hlt : k < nl
  ·obtain ⟨q, rfl⟩ : ∃ q : Nat, i = q := ⟨i.toNat, by omega⟩
   have hqe : nl - 1 - k = q := by omega
   have hv := shr_byte num q
   have hst := HST.out k hlt
   rw [hqe] at hst
   have hge : (0 : Int) ≤ (q : Int) := by omega
   generalize UInt8.ofNat (num / 256 ^ q) = c at hv hst
   have HVV := Lib.hid hv
   have HS' := Lib.hid hst
   have c8 : wr.cell? ⟨w.heap.size, 8, none⟩ = some (.int .u64 (num : Nat)) := row?_cell HRW.out 8
   clear hst hqe
   go_wp2_with (at_builtin; refine Classical.byContradiction ?_)
   intro hh; apply hh; clear hh
   refine app_sl rfl _ _ 27 rfl (w.heap.size + 1) 5 i0 Try.underlying27 hi hz0 hz1 hz2 u6 (L ++ Z.take k) rfl (by have := HO.out.alloc (.cells #[.int .u8 (n8 c : Nat)] 5); have e := HBE.out; simpa [List.length_take, e, Nat.min_eq_left (Nat.le_of_lt hlt)] using this) _ [c] rfl (Rg.lit_sl _ _ _) (by have := HLW.out; have e := HBE.out; simp [e]; omega) (by simp; omega) ?_
   intro v' wn on gn
   have bn : Below w.heap.size w wn := (HB.out.alloc HB.out.size _).grown gn (by have := HB.out.size; simp; omega) (fun q hq => by have := (HO.out.lt q hq).1; omega)
   have rn : row? wn w.heap.size = some (hvA false 0 0 (.slice ad dst.length cd) (.slice as_ 0 cs) (.slice at_ 0 ct) sp ph num nl) := row_grown gn (by rw [row?_alloc_past _ _ _ zr]; exact HRW.out) (fun h => by have := (HO.out.lt _ h.symm).1; omega)
   have ON := Lib.hid on
   have RN := Lib.hid rn
   clear on gn rn c8
   go_wp2_with fail
   go_roundw
   case rel =>
    refine ⟨k + 1, (q : Int) - 1, by omega, by omega, by first | rfl | go_num, ?_, RN.out, bn⟩
    have := ON.out
    have e := HBE.out
    rw [HS'.out]
    simpa [List.length_take, e, Nat.min_eq_left (Nat.le_of_lt hlt), Nat.add_assoc] using this
   case measure => simp [intOf]; try omega
  ·obtain rfl : k = nl := by omega
   obtain rfl : i = -1 := by omega
   have hz : Z.take k = Z := List.take_of_length_le (by have := HBE.out; omega)
   go_wp2_with fail
   go_ret2
   refine ⟨_, rfl, ?_, HB.out⟩
   have := HO.out
   rw [hz] at this
   rw [← HZ2.out]
   exact own_lower (by rw [List.length_append, HBE.out]; exact this) (Nat.le_succ _)
set_option maxRecDepth 100000 in
set_option maxHeartbeats 4000000 in
theorem rputO_long (kind : Int) (ver : Nat) (dst src tok : List UInt8) (vd vs vt : Value) (num nl rest : Nat) (hm : mayN true kind ver dst.length src.length tok.length false false num nl = true) (hv : ver < 4294967296) (hr1 : (rest : Int) ≤ 16383 - nl) (w : World) (hsd : Sl w vd dst) (hss : Sl w vs src) (hst : Sl w vt tok) :
  Calls Try.prog 33 #[.agg (hvA true kind ver vd vs vt false false num nl), .int .i64 (rest : Nat)] w fun e w' => ∃ v, e = .returned (.tuple #[v, .int .i64 0]) ∧ w'.ownsRow w.heap.size 5 1 v (longB kind ver dst src tok num nl rest).length ((longB kind ver dst src tok num nl rest).map bv) ∧ Below w.heap.size w w' := by
 obtain ⟨ad, cd, rfl, -, -, -⟩ := id hsd
 obtain ⟨as_, cs, rfl, -, -, -⟩ := id hss
 obtain ⟨at_, ct, rfl, -, -, -⟩ := id hst
 obtain ⟨i0, hi, hz0, hz1, hz2⟩ := info_parts info8
 have hmay := fun W => rmay_any true kind ver ad as_ at_ dst.length src.length tok.length cd cs ct false false num nl W
 rw [hm] at hmay
 have hfacts : (1 ≤ nl ∧ nl ≤ 4) ∧ num ≤ 4611686018427387903 ∧ dst.length = 8 ∧ (kind = 0 ∨ (kind = 2 ∧ tok.length = 0)) ∧ src.length ≤ 20 ∧ tok.length ≤ 100 := by
  unfold mayN at hm
  split at hm
  ·cases hm
  ·rw [if_neg (by decide)] at hm
   have := of_decide_eq_true hm
   refine ⟨by omega, by omega, by omega, this.1, this.2.1, this.2.2.1⟩
 obtain ⟨⟨h1, h4⟩, hn, hd8, hkind, hs20, ht100⟩ := hfacts
 have hF0 := rlongF (kind := kind) (nl := nl) (by rcases hkind with h | h; exact .inl h; exact .inr h.1) h1 h4
 obtain ⟨F, hF⟩ : ∃ F, longF kind nl = F := ⟨_, rfl⟩
 obtain ⟨ZZ, hZ⟩ : ∃ ZZ, longB kind ver dst src tok num nl rest = ZZ := ⟨_, rfl⟩
 rw [hZ]
 unfold longB at hZ
 rw [hF] at hZ hF0
 have g1 : ¬ ((rest : Nat) : Int) < 0 := by omega
 have g2 : ¬ (16383 - (nl : Int) < (rest : Nat)) := by omega
 have HM := Lib.hid hmay
 have HF := Lib.hid hF0
 have HZ := Lib.hid hZ
 have HN := Lib.hid hn
 have HV := Lib.hid hv
 have HSD := Lib.hid hsd
 have HSS := Lib.hid hss
 have HST := Lib.hid hst
 have HK := Lib.hid hkind
 have HLL := Lib.hid (And.intro hd8 (And.intro hs20 ht100))
 have HR1 := Lib.hid (show row? (w.alloc (.cells (hvA true kind ver (.slice ad dst.length cd) (.slice as_ src.length cs) (.slice at_ tok.length ct) false false num nl) 30)) w.heap.size = some (hvA true kind ver (.slice ad dst.length cd) (.slice as_ src.length cs) (.slice at_ tok.length ct) false false num nl) from row?_alloc_at _ _ _ _ rfl)
 clear hm hmay hF hF0 hZ hn hv hsd hss hst hkind hd8 hs20 ht100
 go_enter Try.func33, Try.ntmps33
 go_wp2_with fail
 refine (HM.out _).mono ?_
 rintro e w1 ⟨rfl, hb1⟩
 have r1 := Rg.stable_row hb1 HR1.out
 have b1 : Below w.heap.size w w1 := ((Below.refl w.heap.size w).alloc (Nat.le_refl _) _).trans (hb1.mono (by simp))
 have c0 : w1.cell? ⟨w.heap.size, 0, none⟩ = some (.bool true) := row?_cell r1 0
 have c1 : w1.cell? ⟨w.heap.size, 1, none⟩ = some (.int .i64 kind) := row?_cell r1 1
 have c2 : w1.cell? ⟨w.heap.size, 2, none⟩ = some (.int .u32 (ver : Nat)) := row?_cell r1 2
 have c3 : w1.cell? ⟨w.heap.size, 3, none⟩ = some (.slice ad dst.length cd) := row?_cell r1 3
 have c9 : w1.cell? ⟨w.heap.size, 9, none⟩ = some (.int .i64 (nl : Nat)) := row?_cell r1 9
 have hmod : ((dst.length : Nat) : Int) % 256 = (dst.length : Nat) := by have := HLL.out.1; omega
 have zr := row?_lt r1
 have R1 := Lib.hid r1
 have B1 := Lib.hid b1
 clear r1 hb1 b1 HM HR1
 go_wp2_with (with_reducible refine Rw.hold_ops 54 ?_)
 refine Rw.Held.mk ?_
 rw [HF.out]
 have hl6 := lit6 F ver dst.length (by have := HLL.out.1; omega)
 have hl6n : ([F] ++ be ver 4 ++ [UInt8.ofNat dst.length]).length = 6 := by simp [be_length]
 obtain ⟨L0, hL0⟩ : ∃ L0, [F] ++ be ver 4 ++ [UInt8.ofNat dst.length] = L0 := ⟨_, rfl⟩
 rw [hL0] at hl6 hl6n
 have o2 : (w1.alloc (.cells #[.int .u8 (n8 F : Nat), .int .u8 ((ver : Int) / 16777216 % 256), .int .u8 ((ver : Int) / 65536 % 256), .int .u8 ((ver : Int) / 256 % 256), .int .u8 ((ver : Int) % 256), .int .u8 (dst.length : Nat)] 5)).ownsRow (w.heap.size + 1) 5 1 (.slice (some ⟨w1.heap.size, 0, none⟩) 6 6) L0.length (L0.map bv) := by
  rw [hl6, hl6n]
  exact World.ownsRow_lit (base := w.heap.size + 1) (size := 1) w1 _ 6 (by omega) (by decide) (by simp)
 have b2 : Below w1.heap.size w1 (w1.alloc (.cells #[.int .u8 (n8 F : Nat), .int .u8 ((ver : Int) / 16777216 % 256), .int .u8 ((ver : Int) / 65536 % 256), .int .u8 ((ver : Int) / 256 % 256), .int .u8 ((ver : Int) % 256), .int .u8 (dst.length : Nat)] 5)) := (Below.refl _ _).alloc (Nat.le_refl _) _
 generalize (w1.alloc (.cells #[.int .u8 (n8 F : Nat), .int .u8 ((ver : Int) / 16777216 % 256), .int .u8 ((ver : Int) / 65536 % 256), .int .u8 ((ver : Int) / 256 % 256), .int .u8 ((ver : Int) % 256), .int .u8 (dst.length : Nat)] 5)) = w2 at o2 b2 ⊢
 have r2 := Rg.stable_row b2 R1.out
 have y2 := B1.out.trans (b2.mono B1.out.size)
 have z2 := b2.size
 have R2 := Lib.hid r2
 have B2 := Lib.hid y2
 have O2 := Lib.hid o2
 have S2 := Lib.hid (HSD.out.below y2)
 have HL0 := Lib.hid hL0
 have HL0n := Lib.hid hl6n
 have c3 : w2.cell? ⟨w.heap.size, 3, none⟩ = some (.slice ad dst.length cd) := row?_cell R2.out 3
 clear r2 y2 o2 b2 R1 B1 c0 c1 c2 c9 hl6 hl6n hL0 hmod
 go_wp2_with (at_builtin; refine Classical.byContradiction ?_)
 intro hh; apply hh; clear hh
 refine app_sl rfl _ _ 27 rfl (w.heap.size + 1) 5 i0 Try.underlying27 hi hz0 hz1 hz2 (.slice (some ⟨w1.heap.size, 0, none⟩) 6 6) L0 rfl O2.out _ dst rfl S2.out (by have := HLL.out.1; have := HL0n.out; omega) (by omega) ?_
 intro v3 w3 o3 g3
 have r3 : row? w3 w.heap.size = some (hvA true kind ver (.slice ad dst.length cd) (.slice as_ src.length cs) (.slice at_ tok.length ct) false false num nl) := row_grown g3 R2.out (fun h => by have := (O2.out.lt _ h.symm).1; omega)
 have bW3 := B2.out.grown g3 B2.out.size (fun k hk => by have := (O2.out.lt k hk).1; omega)
 obtain ⟨L1, hL1⟩ : ∃ L1, L0 ++ dst = L1 := ⟨_, rfl⟩
 have hL1l : L1.length = 14 := by rw [← hL1]; have := HLL.out.1; have := HL0n.out; simp; omega
 have o3' : w3.ownsRow (w.heap.size + 1) 5 1 v3 L1.length (L1.map bv) := by rw [← hL1]; simpa using o3
 have s3 : w.heap.size + 1 ≤ w3.heap.size := by have := row?_lt r3; omega
 have R3 := Lib.hid r3
 have HL1 := Lib.hid hL1
 have HL1l := Lib.hid hL1l
 have c4 : w3.cell? ⟨w.heap.size, 4, none⟩ = some (.slice as_ src.length cs) := row?_cell R3.out 4
 have hmod : ((src.length : Nat) : Int) % 256 = (src.length : Nat) := by have := HLL.out.2.1; omega
 clear o3 g3 r3 hL1 hL1l O2 R2 B2 S2 c3
 go_wp2_with fail
 refine Rg.wp_region_inv [(0, 3), (1, 3), (2, 0), (3, 0), (4, 3), (7, 3)] [⟨5, 63, [], false, fun _ _ => True⟩, ⟨6, 64, [5], false, fun _ _ => True⟩, ⟨8, 66, [], false, fun _ _ => True⟩, ⟨9, 67, [6, 8], false, fun _ _ => True⟩] [(5, 63, []), (6, 64, [5]), (8, 66, []), (9, 67, [6, 8])] [6, 9, 10] [10] (by kernel_rfl) (by kernel_rfl) rfl (by kernel_rfl) ?_
 simp only [Rg.row, Rg.PT.map, List.getD_cons_zero, List.getD_cons_succ]
 go_wp2_with (first
  |(with_reducible refine Rg.plan_pure ?_ ?_ ?_); kernel_rfl; kernel_rfl; intro _ _|(with_reducible refine Rg.plan_take ?_ ?_ ?_); kernel_rfl; kernel_rfl; intro _ _|(with_reducible refine Rg.plan_keep ?_ ?_); kernel_rfl; intro K hK|refine hK _ _ (Rg.Keep.refl _) ?_; clear hK|refine hK _ _ (Rg.Keep.of_below (by assumption)) ?_; clear hK|(with_reducible refine Rg.plan_skip ?_ ?_); kernel_rfl|(with_reducible refine Rg.plan_done ?_)|(with_reducible refine Rg.calm_normal ?_))
 have o3d : w3.drew.ownsRow (w.heap.size + 1) 5 1 v3 L1.length (L1.map bv) := o3'.drew
 have hsn : n8 (UInt8.ofNat src.length) = src.length := n8_ofNat _ (by have := HLL.out.2.1; omega)
 have hssB : ∀ w', Below (w.heap.size + 1) w3.drew w' → Sl w' (.slice as_ src.length cs) src := fun w' h => HSS.out.below (bW3.drew.trans (h.mono (Nat.le_succ _)))
 refine Rg.phase_app2 (w0 := w3.drew) 5 6 8 9 63 64 66 67 (fun _ _ => True) (fun _ _ => True) (fun _ _ => True) (fun _ _ => True) (by decide) (w.heap.size + 1) s3 v3 (.slice as_ src.length cs) L1 src (UInt8.ofNat src.length) (.tmp 58) (.tmp 63) (.tmp 64) (.tmp 66) Try.underlying27 hi hz0 hz1 hz2 o3d hssB (by have := HLL.out.2.1; have := HL1l.out; omega) (by kernel_rfl) (by kernel_rfl) (by kernel_rfl) (by kernel_rfl) (fun us => by kernel_rfl) (fun us => by kernel_rfl) (fun us => by kernel_rfl) (fun us => by kernel_rfl) ?_ ?_ ?_ rfl rfl
 ·intro us wx K hK
  rw [hsn] at hK
  exact Rg.exec_value (v := .slice (some ⟨wx.heap.size, 0, none⟩) 1 1) (w' := wx.alloc (.cells #[.int .u8 (src.length : Nat)] 5)) (by simp [go_sem, execOp, Rg.puts]) hK
 ·intro us wx K hB hK
  have r := Rg.row_below hB ((row?_drew _ _).trans R3.out) (by omega)
  have c : wx.cell? ⟨w.heap.size, 4, none⟩ = some (.slice as_ src.length cs) := row?_cell r 4
  exact Rg.exec_value (v := .slice as_ src.length cs) (w' := wx) (by simp [go_sem, execOp, Rg.puts, c]) hK
 ·intro us w4 hB o4
  have bW4 : Below w.heap.size w w4 := bW3.drew.trans (hB.mono (Nat.le_succ _))
  have r4 : row? w4 w.heap.size = some (hvA true kind ver (.slice ad dst.length cd) (.slice as_ src.length cs) (.slice at_ tok.length ct) false false num nl) := Rg.row_below hB ((row?_drew _ _).trans R3.out) (by omega)
  have s4 : w.heap.size + 1 ≤ w4.heap.size := by have := row?_lt r4; omega
  simp only [Rg.puts, List.map_cons, List.map_nil]
  generalize us 5 = y5
  generalize us 6 = y6
  generalize us 8 = y8
  generalize us 9 = v4 at *
  obtain ⟨L2, hL2⟩ : ∃ L2, L1 ++ [UInt8.ofNat src.length] ++ src = L2 := ⟨_, rfl⟩
  have hL2l : L2.length ≤ 35 := by rw [← hL2]; have := HLL.out.2.1; have := HL1l.out; simp; omega
  rw [hL2] at o4
  have HL2 := Lib.hid hL2
  have HL2l := Lib.hid hL2l
  have R4 := Lib.hid r4
  have O4 := Lib.hid o4
  clear hB r4 o4 hssB o3d o3' R3 s3 c4 bW3 hmod hsn hL2 hL2l
  clear us
  have c41 : w4.cell? ⟨w.heap.size, 1, none⟩ = some (.int .i64 kind) := row?_cell R4.out 1
  have c45 : w4.cell? ⟨w.heap.size, 5, none⟩ = some (.slice at_ tok.length ct) := row?_cell R4.out 5
  have htw : IntKind.u64.wrap ((tok.length : Nat) : Int) = (tok.length : Nat) := by have := HLL.out.2.2; simp only [IntKind.wrap_u64]; omega
  have hcase : (kind == 0) = true ∧ longTok kind tok = vin tok.length (vlen tok.length) ++ tok ∨ (kind == 0) = false ∧ longTok kind tok = [] := by
   by_cases hk : kind = 0
   ·exact .inl ⟨by simp [hk], if_pos hk⟩
   ·exact .inr ⟨by simp [hk], if_neg hk⟩
  rcases hcase with ⟨hk0, hlt⟩ | ⟨hk0, hlt⟩
  ·have HLT := Lib.hid hlt
   clear hlt
   go_wp2_with (first
    |(with_reducible refine Rg.plan_pure ?_ ?_ ?_); kernel_rfl; kernel_rfl; intro _ _|(with_reducible refine Rg.plan_take ?_ ?_ ?_); kernel_rfl; kernel_rfl; intro _ _|(with_reducible refine Rg.plan_keep ?_ ?_); kernel_rfl; intro K hK|refine hK _ _ (Rg.Keep.refl _) ?_; clear hK|refine hK _ _ (Rg.Keep.of_below (by assumption)) ?_; clear hK|(with_reducible refine Rg.plan_skip ?_ ?_); kernel_rfl|(with_reducible refine Rg.plan_done ?_)|(with_reducible refine Rg.calm_normal ?_))
   refine Rg.wp_region_plan (Rg.row [(0, 3), (1, 3), (2, 0), (3, 0), (4, 3), (6, 3), (7, 0), (5, 1)] [8, 9]) [8, 9] (by kernel_rfl) (by kernel_rfl) ?_
   simp only [Rg.row, Rg.PT.map, List.map_cons, List.map_nil, List.getD_cons_zero, List.getD_cons_succ]
   go_wp2_with (first
    |(with_reducible refine Rg.plan_pure ?_ ?_ ?_); kernel_rfl; kernel_rfl; intro _ _|(with_reducible refine Rg.plan_take ?_ ?_ ?_); kernel_rfl; kernel_rfl; intro _ _|(with_reducible refine Rg.plan_keep ?_ ?_); kernel_rfl; intro K hK|refine hK _ _ (Rg.Keep.refl _) ?_; clear hK|refine hK _ _ (Rg.Keep.of_below (by assumption)) ?_; clear hK|(with_reducible refine Rg.plan_skip ?_ ?_); kernel_rfl|(with_reducible refine Rg.plan_done ?_)|(with_reducible refine Rg.calm_normal ?_))
   refine (rput_any L2 tok.length (by have := HL2l.out; omega) (by have := HLL.out.2.2; omega) v4 w4.drew (Own.sl O4.out.drew)).mono ?_
   rintro e w5 ⟨v5, rfl, o5, b5⟩
   refine hK _ _ (Rg.Keep.of_below b5) ?_
   clear hK c41 c45 htw
   have o5' : w5.ownsRow (w.heap.size + 1) 5 1 v5 (L2 ++ vin tok.length (vlen tok.length)).length ((L2 ++ vin tok.length (vlen tok.length)).map bv) := own_lower o5 s4
   have bW5 : Below w.heap.size w w5 := bW4.drew.trans (b5.mono (by have := s4; simp; omega))
   have r5 : row? w5 w.heap.size = some (hvA true kind ver (.slice ad dst.length cd) (.slice as_ src.length cs) (.slice at_ tok.length ct) false false num nl) := Rg.stable_row b5 ((row?_drew _ _).trans R4.out)
   have s5 : w.heap.size + 1 ≤ w5.heap.size := by have := row?_lt r5; omega
   have hst5 : Sl w5 (.slice at_ tok.length ct) tok := HST.out.below bW5
   have hl5 : (L2 ++ vin tok.length (vlen tok.length)).length + tok.length ≤ 2000000 := by have := HL2l.out; have := HLL.out.2.2; have := vlen_le tok.length; simp [vin_length]; omega
   have O5 := Lib.hid o5'
   have R5 := Lib.hid r5
   have S5 := Lib.hid hst5
   clear o5 o5' b5 r5 hst5 O4 R4 bW4 s4
   go_wp2_with (first
    | (at_builtin; refine app_sl rfl _ _ 27 rfl (w.heap.size + 1) 5 i0 Try.underlying27 hi hz0 hz1 hz2 v5 (L2 ++ vin tok.length (vlen tok.length)) rfl O5.out _ tok rfl S5.out hl5 s5 ?_)
    |(with_reducible refine Rg.plan_pure ?_ ?_ ?_); kernel_rfl; kernel_rfl; intro _ _|(with_reducible refine Rg.plan_take ?_ ?_ ?_); kernel_rfl; kernel_rfl; intro _ _|(with_reducible refine Rg.plan_keep ?_ ?_); kernel_rfl; intro K hK|refine hK _ _ (Rg.Keep.refl _) ?_; clear hK|refine hK _ _ (Rg.Keep.of_below (by assumption)) ?_; clear hK|(with_reducible refine Rg.plan_skip ?_ ?_); kernel_rfl|(with_reducible refine Rg.plan_done ?_)|(with_reducible refine Rg.calm_normal ?_))
   intro v6 w6 o6 hg6
   have bW6 : Below w.heap.size w w6 := bW5.grown hg6 bW5.size (fun k hk => by have := (O5.out.lt k hk).1; omega)
   have r6 : row? w6 w.heap.size = some (hvA true kind ver (.slice ad dst.length cd) (.slice as_ src.length cs) (.slice at_ tok.length ct) false false num nl) := row_grown hg6 R5.out (fun h => by have := (O5.out.lt _ h.symm).1; omega)
   have hZ := HZ.out
   rw [HLT.out] at hZ
   have hZ' : (L2 ++ vin tok.length (vlen tok.length) ++ tok) ++ vin (rest + nl) 2 ++ be num nl = ZZ := by rw [← hZ, ← HL2.out, ← HL1.out, ← HL0.out]; simp
   have hl6 : (L2 ++ vin tok.length (vlen tok.length) ++ tok).length ≤ 200 := by have := HL2l.out; have := HLL.out.2.2; have := vlen_le tok.length; simp [vin_length]; omega
   have o6' : w6.ownsRow (w.heap.size + 1) 5 1 v6 (L2 ++ vin tok.length (vlen tok.length) ++ tok).length ((L2 ++ vin tok.length (vlen tok.length) ++ tok).map bv) := by simpa using o6
   clear o6
   generalize L2 ++ vin tok.length (vlen tok.length) ++ tok = L3 at o6' hZ' hl6
   have OX := Lib.hid o6'
   have RX := Lib.hid r6
   have ZX := Lib.hid hZ'
   have LX := Lib.hid hl6
   have BX := Lib.hid bW6
   clear o6' r6 hZ hZ' hl6 hg6 O5 R5 S5 bW5 s5 hl5 HZ HLT HL1 HL2 HL2l HL1l HL0 bW6
   have c9 : w6.cell? ⟨w.heap.size, 9, none⟩ = some (.int .i64 (nl : Nat)) := row?_cell RX.out 9
   go_wp2_with (first
    |(with_reducible refine Rg.plan_pure ?_ ?_ ?_); kernel_rfl; kernel_rfl; intro _ _|(with_reducible refine Rg.plan_take ?_ ?_ ?_); kernel_rfl; kernel_rfl; intro _ _|(with_reducible refine Rg.plan_keep ?_ ?_); kernel_rfl; intro K hK|refine hK _ _ (Rg.Keep.refl _) ?_; clear hK|refine hK _ _ (Rg.Keep.of_below (by assumption)) ?_; clear hK|(with_reducible refine Rg.plan_skip ?_ ?_); kernel_rfl|(with_reducible refine Rg.plan_done ?_)|(with_reducible refine Rg.calm_normal ?_))
   have hpl := rin_2 L3 (rest + nl) (by have := LX.out; omega) (by omega) (by omega) v6 w6 (Own.sl OX.out)
   rw [Int.natCast_add] at hpl
   refine hpl.mono ?_
   rintro e w8 ⟨v8, rfl, o8, b8⟩
   have r8 := Rg.stable_row b8 RX.out
   have y8 := BX.out.trans (b8.mono BX.out.size)
   have zx := row?_lt RX.out
   obtain ⟨L8, hL8⟩ : ∃ L8, L3 ++ vin (rest + nl) 2 = L8 := ⟨_, rfl⟩
   rw [hL8] at o8
   have OW := Lib.hid (own_lower o8 (show w.heap.size + 1 ≤ w6.heap.size by omega))
   have RW := Lib.hid r8
   have BW := Lib.hid y8
   have HLW := Lib.hid (show L8.length ≤ 300 by rw [← hL8]; have := LX.out; simp [vin_length]; omega)
   have HZZ := Lib.hid (show L8 ++ be num nl = ZZ by rw [← hL8]; exact ZX.out)
   clear o8 b8 r8 y8 hL8 OX RX BX LX ZX hpl c9
   obtain ⟨Z, hZ⟩ : ∃ Z, be num nl = Z := ⟨_, rfl⟩
   have hbl := be_length num nl
   have hstep := be_take_succ num nl
   have hzz := HZZ.out
   rw [hZ] at hbl hstep hzz
   have HST := Lib.hid hstep
   have HZ2 := Lib.hid hzz
   have HBE := Lib.hid hbl
   have c9 : w8.cell? ⟨w.heap.size, 9, none⟩ = some (.int .i64 (nl : Nat)) := row?_cell RW.out 9
   clear hstep hZ hzz hbl HZZ
   go_wp2_with (first
    |(with_reducible refine Rg.plan_pure ?_ ?_ ?_); kernel_rfl; kernel_rfl; intro _ _|(with_reducible refine Rg.plan_take ?_ ?_ ?_); kernel_rfl; kernel_rfl; intro _ _|(with_reducible refine Rg.plan_keep ?_ ?_); kernel_rfl; intro K hK|refine hK _ _ (Rg.Keep.refl _) ?_; clear hK|refine hK _ _ (Rg.Keep.of_below (by assumption)) ?_; clear hK|(with_reducible refine Rg.plan_skip ?_ ?_); kernel_rfl|(with_reducible refine Rg.plan_done ?_)|(with_reducible refine Rg.calm_normal ?_))
   go_loopw [6, 7] (fun v6 v7 wr => ∃ k : Nat, ∃ i : Int, k ≤ nl ∧ i + 1 + k = nl ∧ v7 = .int .i64 i ∧ wr.ownsRow (w.heap.size + 1) 5 1 v6 (L8.length + k) ((L8 ++ Z.take k).map bv) ∧ row? wr w.heap.size = some (hvA true kind ver (.slice ad dst.length cd) (.slice as_ src.length cs) (.slice at_ tok.length ct) false false num nl) ∧ Below w.heap.size w wr) (fun _ v _ => (intOf v + 1).toNat)
   case atStart => exact ⟨0, (nl : Int) - 1, by omega, by omega, by first | rfl | simp, by simpa using OW.out, RW.out, BW.out⟩
   case round =>
    obtain ⟨k, i, hk, hik, rfl, how, hrw, hb⟩ := hrel
    have HO := Lib.hid how
    have HRW := Lib.hid hrw
    have HB := Lib.hid hb
    have zr := row?_lt hrw
    clear how hrw hb c9
    by_cases hlt : k < nl
    ·obtain ⟨q, rfl⟩ : ∃ q : Nat, i = q := ⟨i.toNat, by omega⟩
     have hqe : nl - 1 - k = q := by omega
     have hv := shr_byte num q
     have hst := HST.out k hlt
     rw [hqe] at hst
     have hge : (0 : Int) ≤ (q : Int) := by omega
     generalize UInt8.ofNat (num / 256 ^ q) = c at hv hst
     have HVV := Lib.hid hv
     have HS' := Lib.hid hst
     have c8 : wr.cell? ⟨w.heap.size, 8, none⟩ = some (.int .u64 (num : Nat)) := row?_cell HRW.out 8
     clear hst hqe
     go_wp2_with (at_builtin; refine Classical.byContradiction ?_)
     intro hh; apply hh; clear hh
     refine app_sl rfl _ _ 27 rfl (w.heap.size + 1) 5 i0 Try.underlying27 hi hz0 hz1 hz2 u6 (L8 ++ Z.take k) rfl (by have := HO.out.alloc (.cells #[.int .u8 (n8 c : Nat)] 5); have e := HBE.out; simpa [List.length_take, e, Nat.min_eq_left (Nat.le_of_lt hlt)] using this) _ [c] rfl (Rg.lit_sl _ _ _) (by have := HLW.out; have e := HBE.out; simp [e]; omega) (by simp; omega) ?_
     intro v' wn on gn
     have bn : Below w.heap.size w wn := (HB.out.alloc HB.out.size _).grown gn (by have := HB.out.size; simp; omega) (fun q hq => by have := (HO.out.lt q hq).1; omega)
     have rn : row? wn w.heap.size = some (hvA true kind ver (.slice ad dst.length cd) (.slice as_ src.length cs) (.slice at_ tok.length ct) false false num nl) := row_grown gn (by rw [row?_alloc_past _ _ _ zr]; exact HRW.out) (fun h => by have := (HO.out.lt _ h.symm).1; omega)
     have ON := Lib.hid on
     have RN := Lib.hid rn
     clear on gn rn c8
     go_wp2_with fail
     go_roundw
     case rel =>
      refine ⟨k + 1, (q : Int) - 1, by omega, by omega, by first | rfl | go_num, ?_, RN.out, bn⟩
      have := ON.out
      have e := HBE.out
      rw [HS'.out]
      simpa [List.length_take, e, Nat.min_eq_left (Nat.le_of_lt hlt), Nat.add_assoc] using this
     case measure => simp [intOf]; try omega
    ·obtain rfl : k = nl := by omega
     obtain rfl : i = -1 := by omega
     have hz : Z.take k = Z := List.take_of_length_le (by have := HBE.out; omega)
     go_wp2_with fail
     go_ret2
     refine ⟨_, rfl, ?_, HB.out⟩
     have := HO.out
     rw [hz] at this
     rw [← HZ2.out]
     exact own_lower (by rw [List.length_append, HBE.out]; exact this) (Nat.le_succ _)
  ·have hZ := HZ.out
   rw [hlt] at hZ
   have hZ' : L2 ++ vin (rest + nl) 2 ++ be num nl = ZZ := by rw [← hZ, ← HL2.out, ← HL1.out, ← HL0.out]; simp
   have hl6 : L2.length ≤ 200 := by have := HL2l.out; omega
   have OX := O4
   have RX := R4
   have ZX := Lib.hid hZ'
   have LX := Lib.hid hl6
   have BX := Lib.hid bW4
   clear hlt hZ hZ' hl6 HZ HL1 HL2 HL2l HL1l HL0 O4 R4 c45 htw bW4
   have c9 : w4.cell? ⟨w.heap.size, 9, none⟩ = some (.int .i64 (nl : Nat)) := row?_cell RX.out 9
   go_wp2_with (first
    |(with_reducible refine Rg.plan_pure ?_ ?_ ?_); kernel_rfl; kernel_rfl; intro _ _|(with_reducible refine Rg.plan_take ?_ ?_ ?_); kernel_rfl; kernel_rfl; intro _ _|(with_reducible refine Rg.plan_keep ?_ ?_); kernel_rfl; intro K hK|refine hK _ _ (Rg.Keep.refl _) ?_; clear hK|refine hK _ _ (Rg.Keep.of_below (by assumption)) ?_; clear hK|(with_reducible refine Rg.plan_skip ?_ ?_); kernel_rfl|(with_reducible refine Rg.plan_done ?_)|(with_reducible refine Rg.calm_normal ?_))
   have hpl := rin_2 L2 (rest + nl) (by have := LX.out; omega) (by omega) (by omega) v4 w4 (Own.sl OX.out)
   rw [Int.natCast_add] at hpl
   refine hpl.mono ?_
   rintro e w8 ⟨v8, rfl, o8, b8⟩
   have r8 := Rg.stable_row b8 RX.out
   have y8 := BX.out.trans (b8.mono BX.out.size)
   have zx := row?_lt RX.out
   obtain ⟨L8, hL8⟩ : ∃ L8, L2 ++ vin (rest + nl) 2 = L8 := ⟨_, rfl⟩
   rw [hL8] at o8
   have OW := Lib.hid (own_lower o8 (show w.heap.size + 1 ≤ w4.heap.size by omega))
   have RW := Lib.hid r8
   have BW := Lib.hid y8
   have HLW := Lib.hid (show L8.length ≤ 300 by rw [← hL8]; have := LX.out; simp [vin_length]; omega)
   have HZZ := Lib.hid (show L8 ++ be num nl = ZZ by rw [← hL8]; exact ZX.out)
   clear o8 b8 r8 y8 hL8 OX RX BX LX ZX hpl c9
   obtain ⟨Z, hZ⟩ : ∃ Z, be num nl = Z := ⟨_, rfl⟩
   have hbl := be_length num nl
   have hstep := be_take_succ num nl
   have hzz := HZZ.out
   rw [hZ] at hbl hstep hzz
   have HST := Lib.hid hstep
   have HZ2 := Lib.hid hzz
   have HBE := Lib.hid hbl
   have c9 : w8.cell? ⟨w.heap.size, 9, none⟩ = some (.int .i64 (nl : Nat)) := row?_cell RW.out 9
   clear hstep hZ hzz hbl HZZ
   go_wp2_with (first
    |(with_reducible refine Rg.plan_pure ?_ ?_ ?_); kernel_rfl; kernel_rfl; intro _ _|(with_reducible refine Rg.plan_take ?_ ?_ ?_); kernel_rfl; kernel_rfl; intro _ _|(with_reducible refine Rg.plan_keep ?_ ?_); kernel_rfl; intro K hK|refine hK _ _ (Rg.Keep.refl _) ?_; clear hK|refine hK _ _ (Rg.Keep.of_below (by assumption)) ?_; clear hK|(with_reducible refine Rg.plan_skip ?_ ?_); kernel_rfl|(with_reducible refine Rg.plan_done ?_)|(with_reducible refine Rg.calm_normal ?_))
   go_loopw [6, 7] (fun v6 v7 wr => ∃ k : Nat, ∃ i : Int, k ≤ nl ∧ i + 1 + k = nl ∧ v7 = .int .i64 i ∧ wr.ownsRow (w.heap.size + 1) 5 1 v6 (L8.length + k) ((L8 ++ Z.take k).map bv) ∧ row? wr w.heap.size = some (hvA true kind ver (.slice ad dst.length cd) (.slice as_ src.length cs) (.slice at_ tok.length ct) false false num nl) ∧ Below w.heap.size w wr) (fun _ v _ => (intOf v + 1).toNat)
   case atStart => exact ⟨0, (nl : Int) - 1, by omega, by omega, by first | rfl | simp, by simpa using OW.out, RW.out, BW.out⟩
   case round =>
    obtain ⟨k, i, hk, hik, rfl, how, hrw, hb⟩ := hrel
    have HO := Lib.hid how
    have HRW := Lib.hid hrw
    have HB := Lib.hid hb
    have zr := row?_lt hrw
    clear how hrw hb c9
    by_cases hlt : k < nl
    ·obtain ⟨q, rfl⟩ : ∃ q : Nat, i = q := ⟨i.toNat, by omega⟩
     have hqe : nl - 1 - k = q := by omega
     have hv := shr_byte num q
     have hst := HST.out k hlt
     rw [hqe] at hst
     have hge : (0 : Int) ≤ (q : Int) := by omega
     generalize UInt8.ofNat (num / 256 ^ q) = c at hv hst
     have HVV := Lib.hid hv
     have HS' := Lib.hid hst
     have c8 : wr.cell? ⟨w.heap.size, 8, none⟩ = some (.int .u64 (num : Nat)) := row?_cell HRW.out 8
     clear hst hqe
     go_wp2_with (at_builtin; refine Classical.byContradiction ?_)
     intro hh; apply hh; clear hh
     refine app_sl rfl _ _ 27 rfl (w.heap.size + 1) 5 i0 Try.underlying27 hi hz0 hz1 hz2 u6 (L8 ++ Z.take k) rfl (by have := HO.out.alloc (.cells #[.int .u8 (n8 c : Nat)] 5); have e := HBE.out; simpa [List.length_take, e, Nat.min_eq_left (Nat.le_of_lt hlt)] using this) _ [c] rfl (Rg.lit_sl _ _ _) (by have := HLW.out; have e := HBE.out; simp [e]; omega) (by simp; omega) ?_
     intro v' wn on gn
     have bn : Below w.heap.size w wn := (HB.out.alloc HB.out.size _).grown gn (by have := HB.out.size; simp; omega) (fun q hq => by have := (HO.out.lt q hq).1; omega)
     have rn : row? wn w.heap.size = some (hvA true kind ver (.slice ad dst.length cd) (.slice as_ src.length cs) (.slice at_ tok.length ct) false false num nl) := row_grown gn (by rw [row?_alloc_past _ _ _ zr]; exact HRW.out) (fun h => by have := (HO.out.lt _ h.symm).1; omega)
     have ON := Lib.hid on
     have RN := Lib.hid rn
     clear on gn rn c8
     go_wp2_with fail
     go_roundw
     case rel =>
      refine ⟨k + 1, (q : Int) - 1, by omega, by omega, by first | rfl | go_num, ?_, RN.out, bn⟩
      have := ON.out
      have e := HBE.out
      rw [HS'.out]
      simpa [List.length_take, e, Nat.min_eq_left (Nat.le_of_lt hlt), Nat.add_assoc] using this
     case measure => simp [intOf]; try omega
    ·obtain rfl : k = nl := by omega
     obtain rfl : i = -1 := by omega
     have hz : Z.take k = Z := List.take_of_length_le (by have := HBE.out; omega)
     go_wp2_with fail
     go_ret2
     refine ⟨_, rfl, ?_, HB.out⟩
     have := HO.out
     rw [hz] at this
     rw [← HZ2.out]
     exact own_lower (by rw [List.length_append, HBE.out]; exact this) (Nat.le_succ _)
end Go.Proofs.Ytjlpppnpdgenfaa

end
section
namespace Go.Proofs.Ytjlpppnpdgenfaa
open Go.RowKit Go.Rw Hdr
attribute [local go_sem ↓] ldH stH alH bdR bdH hvA_0 hvA_1 hvA_2 hvA_3 hvA_4 hvA_5 hvA_6 hvA_7 hvA_8 hvA_9
attribute [local go_sem] rldH rstH ralH setRow_alloc_at setRow_alloc_past setRow_drew
end Go.Proofs.Ytjlpppnpdgenfaa

end
section

end
