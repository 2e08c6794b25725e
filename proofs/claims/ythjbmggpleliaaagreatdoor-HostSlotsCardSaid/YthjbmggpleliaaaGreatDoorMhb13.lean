/- HdrW3; HdrW4. -/
import Derived.Test.YthjbmggpleliaaaGreatDoorMhb3
import Derived.Test.YthjbmggpleliaaaGreatDoorMhb7
import Derived.Test.YthjbmggpleliaaaGreatDoorMhb4
import Derived.Test.YthjbmggpleliaaaGreatDoorMhb12
import Derived.RegionTactic
import Derived.BigRegion
section
namespace Go.Proofs.YthjbmggpleliaaaGreatDoor
open Go.RowKit Go.Rw Hdr
def hvA (long : Bool) (kind : Int) (ver : Nat) (vd vs vt : Value) (spin phase : Bool) (num : Nat) (nl : Int) : Array Value :=
 #[.bool long, .int .i64 kind, .int .u32 (ver : Nat), vd, vs, vt, .bool spin, .bool phase, .int .u64 (num : Nat), .int .i64 nl]
@[go_sem] theorem hvA_size (l : Bool) (k : Int) (v : Nat) (vd vs vt : Value) (sp ph : Bool) (n : Nat) (nl : Int) : (hvA l k v vd vs vt sp ph n nl).size = 10 := by simp [hvA]
@[go_sem] theorem hvA_0 (l : Bool) (k : Int) (v : Nat) (vd vs vt : Value) (sp ph : Bool) (n : Nat) (nl : Int) : (hvA l k v vd vs vt sp ph n nl)[0]? = some (.bool l) := rfl
@[go_sem] theorem hvA_1 (l : Bool) (k : Int) (v : Nat) (vd vs vt : Value) (sp ph : Bool) (n : Nat) (nl : Int) : (hvA l k v vd vs vt sp ph n nl)[1]? = some (.int .i64 k) := rfl
@[go_sem] theorem hvA_2 (l : Bool) (k : Int) (v : Nat) (vd vs vt : Value) (sp ph : Bool) (n : Nat) (nl : Int) : (hvA l k v vd vs vt sp ph n nl)[2]? = some (.int .u32 (v : Nat)) := rfl
@[go_sem] theorem hvA_3 (l : Bool) (k : Int) (v : Nat) (vd vs vt : Value) (sp ph : Bool) (n : Nat) (nl : Int) : (hvA l k v vd vs vt sp ph n nl)[3]? = some (vd) := rfl
@[go_sem] theorem hvA_4 (l : Bool) (k : Int) (v : Nat) (vd vs vt : Value) (sp ph : Bool) (n : Nat) (nl : Int) : (hvA l k v vd vs vt sp ph n nl)[4]? = some (vs) := rfl
@[go_sem] theorem hvA_5 (l : Bool) (k : Int) (v : Nat) (vd vs vt : Value) (sp ph : Bool) (n : Nat) (nl : Int) : (hvA l k v vd vs vt sp ph n nl)[5]? = some (vt) := rfl
@[go_sem] theorem hvA_6 (l : Bool) (k : Int) (v : Nat) (vd vs vt : Value) (sp ph : Bool) (n : Nat) (nl : Int) : (hvA l k v vd vs vt sp ph n nl)[6]? = some (.bool sp) := rfl
@[go_sem] theorem hvA_7 (l : Bool) (k : Int) (v : Nat) (vd vs vt : Value) (sp ph : Bool) (n : Nat) (nl : Int) : (hvA l k v vd vs vt sp ph n nl)[7]? = some (.bool ph) := rfl
@[go_sem] theorem hvA_8 (l : Bool) (k : Int) (v : Nat) (vd vs vt : Value) (sp ph : Bool) (n : Nat) (nl : Int) : (hvA l k v vd vs vt sp ph n nl)[8]? = some (.int .u64 (n : Nat)) := rfl
@[go_sem] theorem hvA_9 (l : Bool) (k : Int) (v : Nat) (vd vs vt : Value) (sp ph : Bool) (n : Nat) (nl : Int) : (hvA l k v vd vs vt sp ph n nl)[9]? = some (.int .i64 nl) := rfl
@[go_sem] theorem hvA_set3 (l : Bool) (k : Int) (v : Nat) (vd vs vt : Value) (sp ph : Bool) (n : Nat) (nl : Int) (x : Value) : (hvA l k v vd vs vt sp ph n nl).setIfInBounds 3 (x) = hvA l k v x vs vt sp ph n nl := rfl
@[go_sem] theorem hvA_set4 (l : Bool) (k : Int) (v : Nat) (vd vs vt : Value) (sp ph : Bool) (n : Nat) (nl : Int) (x : Value) : (hvA l k v vd vs vt sp ph n nl).setIfInBounds 4 (x) = hvA l k v vd x vt sp ph n nl := rfl
@[go_sem] theorem hvA_set5 (l : Bool) (k : Int) (v : Nat) (vd vs vt : Value) (sp ph : Bool) (n : Nat) (nl : Int) (x : Value) : (hvA l k v vd vs vt sp ph n nl).setIfInBounds 5 (x) = hvA l k v vd vs x sp ph n nl := rfl
@[go_sem] theorem hvA_set6 (l : Bool) (k : Int) (v : Nat) (vd vs vt : Value) (sp ph : Bool) (n : Nat) (nl : Int) (x : Bool) : (hvA l k v vd vs vt sp ph n nl).setIfInBounds 6 (.bool x) = hvA l k v vd vs vt x ph n nl := rfl
@[go_sem] theorem hvA_set7 (l : Bool) (k : Int) (v : Nat) (vd vs vt : Value) (sp ph : Bool) (n : Nat) (nl : Int) (x : Bool) : (hvA l k v vd vs vt sp ph n nl).setIfInBounds 7 (.bool x) = hvA l k v vd vs vt sp x n nl := rfl
@[go_sem] theorem hvA_set8 (l : Bool) (k : Int) (v : Nat) (vd vs vt : Value) (sp ph : Bool) (n : Nat) (nl : Int) (x : Nat) : (hvA l k v vd vs vt sp ph n nl).setIfInBounds 8 (.int .u64 (x : Nat)) = hvA l k v vd vs vt sp ph x nl := rfl
@[go_sem] theorem hvA_set1 (l : Bool) (k : Int) (v : Nat) (vd vs vt : Value) (sp ph : Bool) (n : Nat) (nl : Int) (x : Int) : (hvA l k v vd vs vt sp ph n nl).setIfInBounds 1 (.int .i64 x) = hvA l x v vd vs vt sp ph n nl := rfl
@[go_sem] theorem hvA_set2 (l : Bool) (k : Int) (v : Nat) (vd vs vt : Value) (sp ph : Bool) (n : Nat) (nl : Int) (x : Nat) : (hvA l k v vd vs vt sp ph n nl).setIfInBounds 2 (.int .u32 (x : Nat)) = hvA l k x vd vs vt sp ph n nl := rfl
theorem hvA_all (l : Bool) (k : Int) (v : Nat) (a1 a2 a3 : Option Addr) (n1 n2 n3 c1 c2 c3 : Nat) (sp ph : Bool) (n : Nat) (nl : Int) : allOne (hvA l k v (.slice a1 n1 c1) (.slice a2 n2 c2) (.slice a3 n3 c3) sp ph n nl) = true := by simp [allOne, hvA, Value.oneCell']
attribute [go_sem] hvA_all
theorem AgH : Agg Tryz.prog 150 10 := ⟨⟨_, Tryz.underlying150, rfl⟩, by kernel_rfl⟩
theorem ldH (x : Value) : Instr.loadAt 150 x = loadAgg 150 x := rfl
theorem stH (x y : Value) : Instr.storeAt 150 x y = storeAgg 150 x y := rfl
theorem alH : Instr.alloc 150 true (.tuple #[]) = allocAgg 150 := rfl
theorem rldH (w : World) (b : Nat) (h : (row? w b).map (·.size) = some 10) : (loadAgg 150 (.pointer (some ⟨b, 0, none⟩))).run Tryz.prog w = .ok (.agg ((row? w b).getD #[])) w := load_rule AgH w b h
theorem rstH (w : World) (b : Nat) (c' : Array Value) (h : (row? w b).map (·.size) = some 10) (hn : c'.size = 10) (h1 : allOne c' = true) : (storeAgg 150 (.pointer (some ⟨b, 0, none⟩)) (.agg c')).run Tryz.prog w = .ok () (w.setRow b c') := store_rule AgH w b c' h hn h1
theorem ralH (w : World) : (allocAgg 150).run Tryz.prog w = .ok (.pointer (some ⟨w.heap.size, 0, none⟩)) (w.alloc (.cells (hvA false 0 0 (.slice none 0 0) (.slice none 0 0) (.slice none 0 0) false false 0 0) 150)) := alloc_rule (n := 10) (by kernel_rfl) w
def buildP (t : TypeId) (ps : Array (Nat × Value)) : Sem Value := Instr.build t ps
theorem bdH (ps : Array (Nat × Value)) : Instr.build 150 ps = buildP 150 ps := rfl
theorem buildH (l : Bool) (x : Int) (w : World) : (buildP 150 #[(0, .bool l), (9, .int .i64 x)]).run Tryz.prog w = .ok (.agg (hvA l 0 0 (.slice none 0 0) (.slice none 0 0) (.slice none 0 0) false false 0 x)) w := Go.run_build w _ _ _ (by kernel_rfl)
theorem buildH0 (w : World) : (buildP 150 #[]).run Tryz.prog w = .ok (.agg (hvA false 0 0 (.slice none 0 0) (.slice none 0 0) (.slice none 0 0) false false 0 0)) w := Go.run_build w _ _ _ (by kernel_rfl)
attribute [local go_sem ↓] ldH stH alH shift_shl8 shift_shr8 shift_shl64 shift_shr64
attribute [local go_sem] rldH rstH ralH setRow_alloc_at setRow_alloc_past setRow_drew
set_option maxRecDepth 100000 in
set_option maxHeartbeats 1000000 in
theorem flag_any (is : Bool) (bit : UInt8) (w : World) :
  Calls Tryz.prog 122 #[.bool is, .int .u8 (n8 bit : Nat)] w fun e w' => e = .returned (.int .u8 (n8 (if is then bit else 0) : Nat)) ∧ w = w' := by
 cases is
 all_goals
  go_enter Tryz.func122, Tryz.ntmps122
  go_wp2_with fail
  go_ret
  exact ⟨rfl, rfl⟩
set_option maxRecDepth 100000 in
set_option maxHeartbeats 1000000 in
theorem may_short (ad as_ at_ : Option Addr) (cd cs ct : Nat) (spin phase : Bool) (num : Nat) (nl : Int) (h1 : 1 ≤ nl) (h4 : nl ≤ 4) (hn : (num : Int) ≤ 4611686018427387903) (w : World) :
  Calls Tryz.prog 121 #[.agg (hvA false 0 0 (.slice ad 8 cd) (.slice as_ 0 cs) (.slice at_ 0 ct) spin phase num nl)] w fun e w' => e = .returned (.bool true) ∧ Below w.heap.size w w' := by
 unfold hvA
 go_enter Tryz.func121, Tryz.ntmps121
 have g1 : ¬ nl < 1 := by omega
 have g2 : ¬ 4 < nl := by omega
 have g3 : ¬ (4611686018427387903 : Int) < (num : Nat) := by omega
 clear h1 h4 hn
 go_wp2_with fail
 go_ret
 exact ⟨rfl, (Below.refl _ _).alloc (Nat.le_refl _) _⟩
theorem be_take_succ (n many k : Nat) (h : k < many) : (be n many).take (k + 1) = (be n many).take k ++ [UInt8.ofNat (n / 256 ^ (many - 1 - k))] := by
 rw [List.take_add_one]
 congr 1
 rw [List.getElem?_eq_getElem (by rw [be_length]; exact h)]
 simp [be]
theorem shr_byte (n j : Nat) : ((n : Nat) : Int) / 2 ^ (8 * j) % 256 = (n8 (UInt8.ofNat (n / 256 ^ j)) : Nat) := by
 have e : n8 (UInt8.ofNat (n / 256 ^ j)) = n / 256 ^ j % 256 := by simp [n8]
 have e2 : (2 : Int) ^ (8 * j) = ((256 ^ j : Nat) : Int) := by rw [Int.pow_mul, Int.natCast_pow]; rfl
 rw [e, e2, Int.natCast_emod, Int.natCast_ediv]
 rfl
set_option maxRecDepth 100000 in
set_option maxHeartbeats 1000000 in
theorem number_any (l : List UInt8) (n many : Nat) (hl : l.length ≤ 1000000) (_hn : n < 18446744073709551616) (hm : many ≤ 8) (v : Value) (B : Nat) (w : World) (hB : B ≤ w.heap.size) (hown : w.ownsRow B 5 1 v l.length (l.map bv)) :
  Calls Tryz.prog 123 #[v, .int .u64 (n : Nat), .int .i64 (many : Nat)] w fun e w' => ∃ v', e = .returned v' ∧ w'.ownsRow B 5 1 v' (l ++ be n many).length ((l ++ be n many).map bv) ∧ Below B w w' := by
 obtain ⟨i0, hi, hz0, hz1, hz2⟩ := info_parts info8
 have hbl := be_length n many
 have hstep := be_take_succ n many
 generalize hBE : be n many = Z at hbl hstep ⊢
 have HST := Lib.hid hstep
 clear hstep
 go_enter Tryz.func123, Tryz.ntmps123
 have HO0 := Lib.hid hown
 clear hown hBE
 go_wp2_with fail
 go_loopw [0, 7, 9] (fun vb v7 v wr => ∃ k : Nat, k ≤ many ∧ v = .int .i64 k ∧ wr.ownsRow B 5 1 vb (l.length + k) ((l ++ Z.take k).map bv) ∧ Below B w wr) (fun _ _ v _ => many - (intOf v).toNat)
 case atStart => exact ⟨0, by omega, rfl, by simpa using HO0.out, Below.refl _ _⟩
 case round =>
  obtain ⟨k, hk, rfl, how, hb⟩ := hrel
  have HO := Lib.hid how
  clear how
  by_cases hlt : k < many
  ·have hv := shr_byte n (many - 1 - k)
   have hst := HST.out k hlt
   generalize UInt8.ofNat (n / 256 ^ (many - 1 - k)) = c at hv hst
   have HV := Lib.hid hv
   have HS := Lib.hid hst
   clear hv hst
   have hsub : ((many : Int) - 1 - (k : Int)) = ((many - 1 - k : Nat) : Int) := by omega
   go_wp2_with (at_builtin; refine wpList_append_own _ rfl _ _ 22 rfl B 5 i0 (.int .u8 0) 1 1 Tryz.underlying22 hi hz0 hz1 hz2 rfl (by decide) _ (l.length + k) _ rfl (HO.out.alloc _) ⟨_, 0, none⟩ 1 1 [bv c] rfl rfl ?c1 ?c2 ?c3 ?c4 ?c5 ?_)
   case c1 =>
    intro j u hj
    match j, hj with
    | 0, hj => simp at hj; subst hj; rw [cell_new _ _ _ _ rfl]; exact congrArg (fun x => some (Value.int .u8 x)) HV.out
   case c2 => exact map_bv_one [c]
   case c3 => unfold maxLen; omega
   case c4 => omega
   case c5 => have := hb.size; simp; omega
   intro v' w2 hown2 hgrow2 _
   have hlt2 := Own.lt HO.out
   have kb : Below B w w2 := (hb.alloc (by have := hb.size; omega) _).grown hgrow2 (by have := hb.size; simp; omega) (fun q hq => (HO.out.lt q hq).1)
   have HO2 := Lib.hid hown2
   clear hown2 hgrow2 hlt2
   go_wp2_with fail
   go_roundw
   case rel =>
    refine ⟨k + 1, by omega, by go_num, ?_, kb⟩
    have := HO2.out
    rw [HS.out]
    simpa [Nat.add_assoc] using this
   case measure => simp [intOf]; omega
  ·obtain rfl : k = many := by omega
   have hz : Z.take k = Z := List.take_of_length_le (by omega)
   go_wp2_with fail
   go_ret
   refine ⟨_, rfl, ?_, hb⟩
   have := HO.out
   rw [hz] at this
   rw [List.length_append, hbl]
   exact this
end Go.Proofs.YthjbmggpleliaaaGreatDoor

end
section
namespace Hdr
open Go.Rw
def first (spin phase : Bool) (nl : Nat) : UInt8 := 64 ||| UInt8.ofInt ((nl : Int) - 1) ||| (if spin then 32 else 0) ||| (if phase then 4 else 0)
end Hdr
namespace Go.Proofs.YthjbmggpleliaaaGreatDoor
open Go.RowKit Go.Rw Hdr
attribute [local go_sem ↓] ldH stH alH shift_shl8 shift_shr8 shift_shl64 shift_shr64
attribute [local go_sem] rldH rstH ralH setRow_alloc_at setRow_alloc_past setRow_drew
set_option maxRecDepth 100000 in
set_option maxHeartbeats 4000000 in
theorem put_short (dst : List UInt8) (hd : dst.length = 8) (vd : Value) (as_ at_ : Option Addr) (cs ct : Nat) (spin phase : Bool) (num : Nat) (nl : Nat) (rest : Int) (h1 : 1 ≤ nl) (h4 : nl ≤ 4) (hn : (num : Int) ≤ 4611686018427387903) (hr0 : 0 ≤ rest) (hr1 : rest ≤ 16379) (w : World) (hsd : Sl w vd dst) :
  Calls Tryz.prog 92 #[.agg (hvA false 0 0 vd (.slice as_ 0 cs) (.slice at_ 0 ct) spin phase num nl), .int .i64 rest] w fun e w' => ∃ v, e = .returned (.tuple #[v, .int .i64 0]) ∧ Sl w' v ([first spin phase nl] ++ dst ++ be num nl) ∧ Below w.heap.size w w' := by
 obtain ⟨ad, cd, rfl, hc, hnn, hp⟩ := hsd
 rw [hd]
 obtain ⟨b, off, rfl, hcell⟩ := hp (by omega)
 obtain ⟨i0, hi, hz0, hz1, hz2⟩ := info_parts info8
 clear hnn hp
 have hm := fun W => may_short (some ⟨b, off, none⟩) as_ at_ cd cs ct spin phase num nl (by omega) (by omega) hn W
 unfold hvA at hm ⊢
 have g1 : ¬ rest < 0 := by omega
 have g2 : ¬ (16383 - (nl : Int) < rest) := by omega
 have HM := Lib.hid hm
 have HN := Lib.hid hn
 clear hm hn
 go_enter Tryz.func92, Tryz.ntmps92
 go_wp2_with fail
 refine (HM.out _).mono ?_
 rintro e w1 ⟨rfl, hb1⟩
 have r1 : row? w1 w.heap.size = some #[.bool false, .int .i64 0, .int .u32 ((0 : Nat) : Int), .slice (some ⟨b, off, none⟩) 8 cd, .slice as_ 0 cs, .slice at_ 0 ct, .bool spin, .bool phase, .int .u64 (num : Nat), .int .i64 (nl : Nat)] := Rg.stable_row hb1 (row?_alloc_at _ _ _ _ rfl)
 have b1 : Below w.heap.size w w1 := ((Below.refl w.heap.size w).alloc (Nat.le_refl _) _).trans (hb1.mono (by simp))
 have c0 : w1.cell? ⟨w.heap.size, 0, none⟩ = some (.bool false) := row?_cell r1 0
 have c3 : w1.cell? ⟨w.heap.size, 3, none⟩ = some (.slice (some ⟨b, off, none⟩) 8 cd) := row?_cell r1 3
 have c6 : w1.cell? ⟨w.heap.size, 6, none⟩ = some (.bool spin) := row?_cell r1 6
 have c7 : w1.cell? ⟨w.heap.size, 7, none⟩ = some (.bool phase) := row?_cell r1 7
 have c9 : w1.cell? ⟨w.heap.size, 9, none⟩ = some (.int .i64 (nl : Nat)) := row?_cell r1 9
 have R1 := Lib.hid r1
 have HM' := HM
 have HC0 := Lib.hid hcell
 clear r1 hb1 HM HM' hcell
 go_wp2_with fail
 refine Rg.wp_region_plan (Rg.row [(0, 3), (1, 0), (4, 3), (5, 0), (6, 3), (7, 3), (2, 1), (3, 3), (8, 3), (9, 3)] []) [] (by kernel_rfl) (by kernel_rfl) ?_
 simp only [Rg.row, Rg.PT.map, List.map_nil, List.getD_cons_zero, List.getD_cons_succ]
 go_wp2_with (first
  |(with_reducible refine Rg.plan_pure ?_ ?_ ?_); kernel_rfl; kernel_rfl; intro _ _|(with_reducible refine Rg.plan_take ?_ ?_ ?_); kernel_rfl; kernel_rfl; intro _ _|(with_reducible refine Rg.plan_keep ?_ ?_); kernel_rfl; intro K hK|refine hK _ _ (Rg.Keep.refl _) ?_; clear hK|refine hK _ _ (Rg.Keep.of_below (by assumption)) ?_; clear hK|(with_reducible refine Rg.plan_skip ?_ ?_); kernel_rfl|(with_reducible refine Rg.plan_done ?_)|(with_reducible refine Rg.calm_normal ?_))
 refine (flag_any _ 128 _).mono ?_
 rintro e w' ⟨rfl, rfl⟩
 obtain ⟨fs, hfs⟩ : ∃ fs : UInt8, (if spin then 32 else 0) = fs := ⟨_, rfl⟩
 obtain ⟨fp, hfp⟩ : ∃ fp : UInt8, (if phase then 4 else 0) = fp := ⟨_, rfl⟩
 have F1 := flag_any spin 32
 have F2 := flag_any phase 4
 have hfirst : first spin phase nl = 64 ||| UInt8.ofInt ((nl : Int) - 1) ||| fs ||| fp := by rw [← hfs, ← hfp]; rfl
 rw [hfs] at F1
 rw [hfp] at F2
 have G1 := Lib.hid F1
 have G2 := Lib.hid F2
 have G3 := Lib.hid hfirst
 clear hfs hfp F1 F2 hfirst
 go_wp2_with (first
  |(with_reducible refine Rg.plan_pure ?_ ?_ ?_); kernel_rfl; kernel_rfl; intro _ _|(with_reducible refine Rg.plan_take ?_ ?_ ?_); kernel_rfl; kernel_rfl; intro _ _|(with_reducible refine Rg.plan_keep ?_ ?_); kernel_rfl; intro K hK|refine hK _ _ (Rg.Keep.refl _) ?_; clear hK|refine hK _ _ (Rg.Keep.of_below (by assumption)) ?_; clear hK|(with_reducible refine Rg.plan_skip ?_ ?_); kernel_rfl|(with_reducible refine Rg.plan_done ?_)|(with_reducible refine Rg.calm_normal ?_))
 refine Rg.wp_region_plan (Rg.row [(0, 3), (1, 3), (2, 0), (5, 3), (6, 0), (10, 3), (11, 0), (3, 1), (4, 3), (7, 1), (8, 3), (9, 1)] [12, 13]) [12, 13] (by kernel_rfl) (by kernel_rfl) ?_
 simp only [Rg.row, Rg.PT.map, List.map_cons, List.map_nil, List.getD_cons_zero, List.getD_cons_succ]
 go_wp2_with (first
  |(with_reducible refine Rg.plan_pure ?_ ?_ ?_); kernel_rfl; kernel_rfl; intro _ _|(with_reducible refine Rg.plan_take ?_ ?_ ?_); kernel_rfl; kernel_rfl; intro _ _|(with_reducible refine Rg.plan_keep ?_ ?_); kernel_rfl; intro K hK|refine hK _ _ (Rg.Keep.refl _) ?_; clear hK|refine hK _ _ (Rg.Keep.of_below (by assumption)) ?_; clear hK|(with_reducible refine Rg.plan_skip ?_ ?_); kernel_rfl|(with_reducible refine Rg.plan_done ?_)|(with_reducible refine Rg.calm_normal ?_))
 refine (G1.out _).mono ?_
 rintro e w' ⟨rfl, rfl⟩
 go_wp2_with (first
  |(with_reducible refine Rg.plan_pure ?_ ?_ ?_); kernel_rfl; kernel_rfl; intro _ _|(with_reducible refine Rg.plan_take ?_ ?_ ?_); kernel_rfl; kernel_rfl; intro _ _|(with_reducible refine Rg.plan_keep ?_ ?_); kernel_rfl; intro K hK|refine hK _ _ (Rg.Keep.refl _) ?_; clear hK|refine hK _ _ (Rg.Keep.of_below (by assumption)) ?_; clear hK|(with_reducible refine Rg.plan_skip ?_ ?_); kernel_rfl|(with_reducible refine Rg.plan_done ?_)|(with_reducible refine Rg.calm_normal ?_))
 refine (G2.out _).mono ?_
 rintro e w' ⟨rfl, rfl⟩
 go_wp2_with (first
  |(with_reducible refine Rg.plan_pure ?_ ?_ ?_); kernel_rfl; kernel_rfl; intro _ _|(with_reducible refine Rg.plan_take ?_ ?_ ?_); kernel_rfl; kernel_rfl; intro _ _|(with_reducible refine Rg.plan_keep ?_ ?_); kernel_rfl; intro K hK|refine hK _ _ (Rg.Keep.refl _) ?_; clear hK|refine hK _ _ (Rg.Keep.of_below (by assumption)) ?_; clear hK|(with_reducible refine Rg.plan_skip ?_ ?_); kernel_rfl|(with_reducible refine Rg.plan_done ?_)|(with_reducible refine Rg.calm_normal ?_))
 refine hK _ _ (Rg.Keep.of_below ((Below.refl _ _).alloc (Nat.le_refl _) _)) ?_
 clear hK
 have howA : (w1.alloc (.cells #[.int .u8 (n8 (64 ||| UInt8.ofInt ((nl : Int) - 1) ||| fs ||| fp) : Nat)] 5)).drew.drew.ownsRow w.heap.size 5 1 (.slice (some ⟨w1.heap.size, 0, none⟩) 1 1) 1 ([64 ||| UInt8.ofInt ((nl : Int) - 1) ||| fs ||| fp].map bv) := ((World.ownsRow_lit (base := w.heap.size) w1 #[.int .u8 (n8 (64 ||| UInt8.ofInt ((nl : Int) - 1) ||| fs ||| fp) : Nat)] 1 b1.size (by decide) (by simp)).drew).drew
 have bA : Below w.heap.size w (w1.alloc (.cells #[.int .u8 (n8 (64 ||| UInt8.ofInt ((nl : Int) - 1) ||| fs ||| fp) : Nat)] 5)).drew.drew := ((b1.alloc b1.size _).drew).drew
 have rA : row? (w1.alloc (.cells #[.int .u8 (n8 (64 ||| UInt8.ofInt ((nl : Int) - 1) ||| fs ||| fp) : Nat)] 5)).drew.drew w.heap.size = some #[.bool false, .int .i64 0, .int .u32 ((0 : Nat) : Int), .slice (some ⟨b, off, none⟩) 8 cd, .slice as_ 0 cs, .slice at_ 0 ct, .bool spin, .bool phase, .int .u64 (num : Nat), .int .i64 (nl : Nat)] := by rw [row?_drew, row?_drew]; exact Rg.stable_row ((Below.refl _ _).alloc (Nat.le_refl _) _) R1.out
 rw [← G3.out] at howA bA rA ⊢
 generalize hfF : first spin phase nl = F at howA bA rA ⊢
 generalize (w1.alloc (.cells #[.int .u8 (n8 F : Nat)] 5)).drew.drew = wA at howA bA rA ⊢
 have HA := Lib.hid howA
 have RA := Lib.hid rA
 clear howA rA c0 c3 c6 c7 c9 G3 g1 g2
 go_wp2_with (first
  | (at_builtin; refine wpList_append_own _ rfl _ _ 22 rfl w.heap.size 5 i0 (.int .u8 0) 1 1 Tryz.underlying22 hi hz0 hz1 hz2 rfl (by decide) _ 1 _ rfl HA.out ⟨b, off, none⟩ 8 cd (dst.map bv) rfl (by simp [hd]) ?c1 ?c2 ?c3 ?c4 ?c5 ?_)
  |(with_reducible refine Rg.plan_pure ?_ ?_ ?_); kernel_rfl; kernel_rfl; intro _ _|(with_reducible refine Rg.plan_take ?_ ?_ ?_); kernel_rfl; kernel_rfl; intro _ _|(with_reducible refine Rg.plan_keep ?_ ?_); kernel_rfl; intro K hK|refine hK _ _ (Rg.Keep.refl _) ?_; clear hK|refine hK _ _ (Rg.Keep.of_below (by assumption)) ?_; clear hK|(with_reducible refine Rg.plan_skip ?_ ?_); kernel_rfl|(with_reducible refine Rg.plan_done ?_)|(with_reducible refine Rg.calm_normal ?_))
 case c1 =>
  intro j u hj
  have hjl : j < dst.length := by have := (List.getElem?_eq_some_iff.1 hj).1; simpa using this
  have hcj := HC0.out j hjl
  rw [Addr.add_lit, below_cell bA hcj (cell_lt hcj), ← hj]
  simp [nth, bv, n8, hjl]
 case c2 => exact map_bv_one _
 case c3 => decide
 case c4 => decide
 case c5 => exact bA.size
 intro v' w2 hown2 hgrow2 _
 have hlt1 : w.heap.size ≤ w1.heap.size := b1.size
 have b2 : Below w.heap.size w w2 := bA.grown hgrow2 bA.size (fun k hk => by have := (HA.out.lt k hk).1; exact this)
 have r2 : row? w2 w.heap.size = some #[.bool false, .int .i64 0, .int .u32 ((0 : Nat) : Int), .slice (some ⟨b, off, none⟩) 8 cd, .slice as_ 0 cs, .slice at_ 0 ct, .bool spin, .bool phase, .int .u64 (num : Nat), .int .i64 (nl : Nat)] := by
  refine row_grown hgrow2 RA.out ?_
  intro h
  have hq := row?_lt R1.out
  have e : w.heap.size = w1.heap.size := Option.some.inj h
  omega
 have c8 : w2.cell? ⟨w.heap.size, 8, none⟩ = some (.int .u64 (num : Nat)) := row?_cell r2 8
 have c9 : w2.cell? ⟨w.heap.size, 9, none⟩ = some (.int .i64 (nl : Nat)) := row?_cell r2 9
 have hown3 : w2.ownsRow w.heap.size 5 1 v' ([F] ++ dst).length (([F] ++ dst).map bv) := by
  rw [List.length_append, hd]
  simpa using hown2
 have HO2 := Lib.hid hown3
 clear hown2 hown3 hgrow2 r2
 go_wp2_with (first
  |(with_reducible refine Rg.plan_pure ?_ ?_ ?_); kernel_rfl; kernel_rfl; intro _ _|(with_reducible refine Rg.plan_take ?_ ?_ ?_); kernel_rfl; kernel_rfl; intro _ _|(with_reducible refine Rg.plan_keep ?_ ?_); kernel_rfl; intro K hK|refine hK _ _ (Rg.Keep.refl _) ?_; clear hK|refine hK _ _ (Rg.Keep.of_below (by assumption)) ?_; clear hK|(with_reducible refine Rg.plan_skip ?_ ?_); kernel_rfl|(with_reducible refine Rg.plan_done ?_)|(with_reducible refine Rg.calm_normal ?_))
 refine (number_any ([F] ++ dst) num nl (by simp [hd]) (by have := HN.out; omega) (by omega) v' w.heap.size w2 b2.size HO2.out).mono ?_
 rintro e w3 ⟨v3, rfl, hown3, b3⟩
 have H3 := Lib.hid hown3
 clear hown3
 go_wp2_with fail
 go_ret2
 refine ⟨v3, rfl, ?_, b2.trans b3⟩
 rw [hfF]
 exact Own.sl H3.out
end Go.Proofs.YthjbmggpleliaaaGreatDoor

end
