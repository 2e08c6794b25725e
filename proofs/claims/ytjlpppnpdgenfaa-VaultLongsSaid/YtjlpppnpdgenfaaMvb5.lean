/- HdrW3; HdrW9; HdrW10; HdrW11. -/
import Derived.Test.YtjlpppnpdgenfaaMvb2
import Derived.Test.YtjlpppnpdgenfaaMvbLibW
import Derived.Test.YtjlpppnpdgenfaaMvbLibM
import Derived.Test.YtjlpppnpdgenfaaMvb3
import Derived.RegionTactic
import Derived.BigRegion
import Derived.Test.YtjlpppnpdgenfaaMvbHdrW8
import Derived.ScopeJumps
import Derived.WalkMore
section
namespace Go.Proofs.Ytjlpppnpdgenfaa
open Go.RowKit Go.Rw Hdr
def hvA (long : Bool) (kind : Int) (ver : Nat) (vd vs vt : Value) (spin phase : Bool) (num : Nat) (nl : Int) : Array Value :=
 #[.bool long, .int .i64 kind, .int .u32 (ver : Nat), vd, vs, vt, .bool spin, .bool phase, .int .u64 (num : Nat), .int .i64 nl]
@[go_sem] theorem hvA_size (l : Bool) (k : Int) (v : Nat) (vd vs vt : Value) (sp ph : Bool) (n : Nat) (nl : Int) : (hvA l k v vd vs vt sp ph n nl).size = 10 := by simp [hvA]
@[go_sem] theorem hvA_0 (l : Bool) (k : Int) (v : Nat) (vd vs vt : Value) (sp ph : Bool) (n : Nat) (nl : Int) : (hvA l k v vd vs vt sp ph n nl)[0]? = some (.bool l) := rfl
@[go_sem] theorem hvA_1 (l : Bool) (k : Int) (v : Nat) (vd vs vt : Value) (sp ph : Bool) (n : Nat) (nl : Int) : (hvA l k v vd vs vt sp ph n nl)[1]? = some (.int .i64 k) := rfl
@[go_sem] theorem hvA_2 (l : Bool) (k : Int) (v : Nat) (vd vs vt : Value) (sp ph : Bool) (n : Nat) (nl : Int) : (hvA l k v vd vs vt sp ph n nl)[2]? = some (.int .u32 (v : Nat)) := rfl
@[go_sem] theorem hvA_3 (l : Bool) (k : Int) (v : Nat) (vd vs vt : Value) (sp ph : Bool) (n : Nat) (nl : Int) : (hvA l k v vd vs vt sp ph n nl)[3]? = some (vd) := rfl
@[go_sem] theorem hvA_4 (l : Bool) (k : Int) (v : Nat) (vd vs vt : Value) (sp ph : Bool) (n : Nat) (nl : Int) : (hvA l k v vd vs vt sp ph n nl)[4]? = some (vs) := rfl
@[go_sem] theorem hvA_5 (l : Bool) (k : Int) (v : Nat) (vd vs vt : Value) (sp ph : Bool) (n : Nat) (nl : Int) : (hvA l k v vd vs vt sp ph n nl)[5]? = some (vt) := rfl
@[go_sem] theorem hvA_6 (l : Bool) (k : Int) (v : Nat) (vd vs vt : Value) (sp ph : Bool) (n : Nat) (nl : Int) : (hvA l k v vd vs vt sp ph n nl)[6]? = some (.bool sp) := rfl
@[go_sem] theorem hvA_7 (l : Bool) (k : Int) (v : Nat) (vd vs vt : Value) (sp ph : Bool) (n : Nat) (nl : Int) : (hvA l k v vd vs vt sp ph n nl)[7]? = some (.bool ph) := rfl
@[go_sem] theorem hvA_8 (l : Bool) (k : Int) (v : Nat) (vd vs vt : Value) (sp ph : Bool) (n : Nat) (nl : Int) : (hvA l k v vd vs vt sp ph n nl)[8]? = some (.int .u64 (n : Nat)) := rfl
@[go_sem] theorem hvA_9 (l : Bool) (k : Int) (v : Nat) (vd vs vt : Value) (sp ph : Bool) (n : Nat) (nl : Int) : (hvA l k v vd vs vt sp ph n nl)[9]? = some (.int .i64 nl) := rfl
@[go_sem] theorem hvA_set3 (l : Bool) (k : Int) (v : Nat) (vd vs vt : Value) (sp ph : Bool) (n : Nat) (nl : Int) (x : Value) : (hvA l k v vd vs vt sp ph n nl).setIfInBounds 3 (x) = hvA l k v x vs vt sp ph n nl := rfl
@[go_sem] theorem hvA_set4 (l : Bool) (k : Int) (v : Nat) (vd vs vt : Value) (sp ph : Bool) (n : Nat) (nl : Int) (x : Value) : (hvA l k v vd vs vt sp ph n nl).setIfInBounds 4 (x) = hvA l k v vd x vt sp ph n nl := rfl
@[go_sem] theorem hvA_set5 (l : Bool) (k : Int) (v : Nat) (vd vs vt : Value) (sp ph : Bool) (n : Nat) (nl : Int) (x : Value) : (hvA l k v vd vs vt sp ph n nl).setIfInBounds 5 (x) = hvA l k v vd vs x sp ph n nl := rfl
@[go_sem] theorem hvA_set6 (l : Bool) (k : Int) (v : Nat) (vd vs vt : Value) (sp ph : Bool) (n : Nat) (nl : Int) (x : Bool) : (hvA l k v vd vs vt sp ph n nl).setIfInBounds 6 (.bool x) = hvA l k v vd vs vt x ph n nl := rfl
@[go_sem] theorem hvA_set7 (l : Bool) (k : Int) (v : Nat) (vd vs vt : Value) (sp ph : Bool) (n : Nat) (nl : Int) (x : Bool) : (hvA l k v vd vs vt sp ph n nl).setIfInBounds 7 (.bool x) = hvA l k v vd vs vt sp x n nl := rfl
@[go_sem] theorem hvA_set8 (l : Bool) (k : Int) (v : Nat) (vd vs vt : Value) (sp ph : Bool) (n : Nat) (nl : Int) (x : Nat) : (hvA l k v vd vs vt sp ph n nl).setIfInBounds 8 (.int .u64 (x : Nat)) = hvA l k v vd vs vt sp ph x nl := rfl
@[go_sem] theorem hvA_set1 (l : Bool) (k : Int) (v : Nat) (vd vs vt : Value) (sp ph : Bool) (n : Nat) (nl : Int) (x : Int) : (hvA l k v vd vs vt sp ph n nl).setIfInBounds 1 (.int .i64 x) = hvA l x v vd vs vt sp ph n nl := rfl
@[go_sem] theorem hvA_set2 (l : Bool) (k : Int) (v : Nat) (vd vs vt : Value) (sp ph : Bool) (n : Nat) (nl : Int) (x : Nat) : (hvA l k v vd vs vt sp ph n nl).setIfInBounds 2 (.int .u32 (x : Nat)) = hvA l k x vd vs vt sp ph n nl := rfl
theorem hvA_all (l : Bool) (k : Int) (v : Nat) (a1 a2 a3 : Option Addr) (n1 n2 n3 c1 c2 c3 : Nat) (sp ph : Bool) (n : Nat) (nl : Int) : allOne (hvA l k v (.slice a1 n1 c1) (.slice a2 n2 c2) (.slice a3 n3 c3) sp ph n nl) = true := by simp [allOne, hvA, Value.oneCell']
attribute [go_sem] hvA_all
theorem AgH : Agg Try.prog 30 10 := ⟨⟨_, Try.underlying30, rfl⟩, by kernel_rfl⟩
theorem ldH (x : Value) : Instr.loadAt 30 x = loadAgg 30 x := rfl
theorem stH (x y : Value) : Instr.storeAt 30 x y = storeAgg 30 x y := rfl
theorem alH : Instr.alloc 30 true (.tuple #[]) = allocAgg 30 := rfl
theorem rldH (w : World) (b : Nat) (h : (row? w b).map (·.size) = some 10) : (loadAgg 30 (.pointer (some ⟨b, 0, none⟩))).run Try.prog w = .ok (.agg ((row? w b).getD #[])) w := load_rule AgH w b h
theorem rstH (w : World) (b : Nat) (c' : Array Value) (h : (row? w b).map (·.size) = some 10) (hn : c'.size = 10) (h1 : allOne c' = true) : (storeAgg 30 (.pointer (some ⟨b, 0, none⟩)) (.agg c')).run Try.prog w = .ok () (w.setRow b c') := store_rule AgH w b c' h hn h1
theorem ralH (w : World) : (allocAgg 30).run Try.prog w = .ok (.pointer (some ⟨w.heap.size, 0, none⟩)) (w.alloc (.cells (hvA false 0 0 (.slice none 0 0) (.slice none 0 0) (.slice none 0 0) false false 0 0) 30)) := alloc_rule (n := 10) (by kernel_rfl) w
def buildP (t : TypeId) (ps : Array (Nat × Value)) : Sem Value := Instr.build t ps
theorem bdH (ps : Array (Nat × Value)) : Instr.build 30 ps = buildP 30 ps := rfl
theorem bdR (ps : Array (Nat × Value)) : Instr.build 92 ps = buildP 92 ps := rfl
theorem buildR (ao : Option Addr) (n cap : Nat) (w : World) : (buildP 92 #[(0, .slice ao n cap)]).run Try.prog w = .ok (.agg #[.slice ao n cap, .int .i64 0, .int .i64 0]) w := Go.run_build w _ _ _ (by kernel_rfl)
theorem buildH (l : Bool) (x : Int) (w : World) : (buildP 30 #[(0, .bool l), (9, .int .i64 x)]).run Try.prog w = .ok (.agg (hvA l 0 0 (.slice none 0 0) (.slice none 0 0) (.slice none 0 0) false false 0 x)) w := Go.run_build w _ _ _ (by kernel_rfl)
theorem buildH0 (w : World) : (buildP 30 #[]).run Try.prog w = .ok (.agg (hvA false 0 0 (.slice none 0 0) (.slice none 0 0) (.slice none 0 0) false false 0 0)) w := Go.run_build w _ _ _ (by kernel_rfl)
attribute [local go_sem ↓] ldH stH alH shift_shl8 shift_shr8 shift_shl64 shift_shr64
attribute [local go_sem] rldH rstH ralH setRow_alloc_at setRow_alloc_past setRow_drew
set_option maxRecDepth 100000 in
set_option maxHeartbeats 1000000 in
theorem flag_any (is : Bool) (bit : UInt8) (w : World) :
  Calls Try.prog 45 #[.bool is, .int .u8 (n8 bit : Nat)] w fun e w' => e = .returned (.int .u8 (n8 (if is then bit else 0) : Nat)) ∧ w = w' := by
 cases is
 all_goals
  go_enter Try.func45, Try.ntmps45
  go_wp2_with fail
  go_ret
  exact ⟨rfl, rfl⟩
set_option maxRecDepth 100000 in
set_option maxHeartbeats 1000000 in
theorem may_short (ad as_ at_ : Option Addr) (cd cs ct : Nat) (spin phase : Bool) (num : Nat) (nl : Int) (h1 : 1 ≤ nl) (h4 : nl ≤ 4) (hn : (num : Int) ≤ 4611686018427387903) (w : World) :
  Calls Try.prog 27 #[.agg (hvA false 0 0 (.slice ad 8 cd) (.slice as_ 0 cs) (.slice at_ 0 ct) spin phase num nl)] w fun e w' => e = .returned (.bool true) ∧ Below w.heap.size w w' := by
 unfold hvA
 go_enter Try.func27, Try.ntmps27
 have g1 : ¬ nl < 1 := by omega
 have g2 : ¬ 4 < nl := by omega
 have g3 : ¬ (4611686018427387903 : Int) < (num : Nat) := by omega
 clear h1 h4 hn
 go_wp2_with fail
 go_ret
 exact ⟨rfl, (Below.refl _ _).alloc (Nat.le_refl _) _⟩
theorem be_take_succ (n many k : Nat) (h : k < many) : (be n many).take (k + 1) = (be n many).take k ++ [UInt8.ofNat (n / 256 ^ (many - 1 - k))] := by
 rw [List.take_add_one]
 congr 1
 rw [List.getElem?_eq_getElem (by rw [be_length]; exact h)]
 simp [be]
theorem shr_byte (n j : Nat) : ((n : Nat) : Int) / 2 ^ (8 * j) % 256 = (n8 (UInt8.ofNat (n / 256 ^ j)) : Nat) := by
 have e : n8 (UInt8.ofNat (n / 256 ^ j)) = n / 256 ^ j % 256 := by simp [n8]
 have e2 : (2 : Int) ^ (8 * j) = ((256 ^ j : Nat) : Int) := by rw [Int.pow_mul, Int.natCast_pow]; rfl
 rw [e, e2, Int.natCast_emod, Int.natCast_ediv]
 rfl
set_option maxRecDepth 100000 in
set_option maxHeartbeats 1000000 in
theorem number_any (l : List UInt8) (n many : Nat) (hl : l.length ≤ 1000000) (_hn : n < 18446744073709551616) (hm : many ≤ 8) (v : Value) (B : Nat) (w : World) (hB : B ≤ w.heap.size) (hown : w.ownsRow B 5 1 v l.length (l.map bv)) :
  Calls Try.prog 46 #[v, .int .u64 (n : Nat), .int .i64 (many : Nat)] w fun e w' => ∃ v', e = .returned v' ∧ w'.ownsRow B 5 1 v' (l ++ be n many).length ((l ++ be n many).map bv) ∧ Below B w w' := by
 obtain ⟨i0, hi, hz0, hz1, hz2⟩ := info_parts info8
 have hbl := be_length n many
 have hstep := be_take_succ n many
 generalize hBE : be n many = Z at hbl hstep ⊢
 have HST := Lib.hid hstep
 clear hstep
 go_enter Try.func46, Try.ntmps46
 have HO0 := Lib.hid hown
 clear hown hBE
 go_wp2_with fail
 go_loopw [0, 7, 9] (fun vb v7 v wr => ∃ k : Nat, k ≤ many ∧ v = .int .i64 k ∧ wr.ownsRow B 5 1 vb (l.length + k) ((l ++ Z.take k).map bv) ∧ Below B w wr) (fun _ _ v _ => many - (intOf v).toNat)
 case atStart => exact ⟨0, by omega, rfl, by simpa using HO0.out, Below.refl _ _⟩
 case round =>
  obtain ⟨k, hk, rfl, how, hb⟩ := hrel
  have HO := Lib.hid how
  clear how
  by_cases hlt : k < many
  ·have hv := shr_byte n (many - 1 - k)
   have hst := HST.out k hlt
   generalize UInt8.ofNat (n / 256 ^ (many - 1 - k)) = c at hv hst
   have HV := Lib.hid hv
   have HS := Lib.hid hst
   clear hv hst
   have hsub : ((many : Int) - 1 - (k : Int)) = ((many - 1 - k : Nat) : Int) := by omega
   go_wp2_with (at_builtin; refine wpList_append_own _ rfl _ _ 27 rfl B 5 i0 (.int .u8 0) 1 1 Try.underlying27 hi hz0 hz1 hz2 rfl (by decide) _ (l.length + k) _ rfl (HO.out.alloc _) ⟨_, 0, none⟩ 1 1 [bv c] rfl rfl ?c1 ?c2 ?c3 ?c4 ?c5 ?_)
   case c1 =>
    intro j u hj
    match j, hj with
    | 0, hj => simp at hj; subst hj; rw [cell_new _ _ _ _ rfl]; exact congrArg (fun x => some (Value.int .u8 x)) HV.out
   case c2 => exact map_bv_one [c]
   case c3 => unfold maxLen; omega
   case c4 => omega
   case c5 => have := hb.size; simp; omega
   intro v' w2 hown2 hgrow2 _
   have hlt2 := Own.lt HO.out
   have kb : Below B w w2 := (hb.alloc (by have := hb.size; omega) _).grown hgrow2 (by have := hb.size; simp; omega) (fun q hq => (HO.out.lt q hq).1)
   have HO2 := Lib.hid hown2
   clear hown2 hgrow2 hlt2
   go_wp2_with fail
   go_roundw
   case rel =>
    refine ⟨k + 1, by omega, by go_num, ?_, kb⟩
    have := HO2.out
    rw [HS.out]
    simpa [Nat.add_assoc] using this
   case measure => simp [intOf]; omega
  ·obtain rfl : k = many := by omega
   have hz : Z.take k = Z := List.take_of_length_le (by omega)
   go_wp2_with fail
   go_ret
   refine ⟨_, rfl, ?_, hb⟩
   have := HO.out
   rw [hz] at this
   rw [List.length_append, hbl]
   exact this
end Go.Proofs.Ytjlpppnpdgenfaa

end
section
namespace Go.Proofs.Ytjlpppnpdgenfaa
open Go.RowKit Go.Rw Hdr
attribute [local go_sem ↓] hvA_0 hvA_1 hvA_2 hvA_3 hvA_4 hvA_5 hvA_6 hvA_7 hvA_8 hvA_9
attribute [local go_sem ↓] shift_shl8 shift_shr8 shift_shl64 shift_shr64
theorem kind_byte (f : UInt8) : ((n8 (shr8 f 4 &&& 3) : Nat) : Int) = (n8 f / 16 % 4 : Nat) := by
 have h : n8 (shr8 f 4) = n8 f / 16 := n8_shr8 f 4
 have e : n8 (shr8 f 4 &&& 3) = n8 (shr8 f 4) % 4 := by
  unfold n8
  rw [UInt8.toNat_and]
  exact Nat.and_two_pow_sub_one_eq_mod (n := 2) (shr8 f 4).toNat
 rw [e, h]
set_option maxRecDepth 100000 in
set_option maxHeartbeats 2000000 in
theorem ahead_any (b : List UInt8) (w0 w : World) (B Bh : Nat) (vb : Value) (s : Nat × Int) (f : UInt8) (long : Bool) (k0 : Int) (v0 : Nat) (sp ph : Bool) (num : Nat) (nl : Int) (hb : b.length ≤ 1000000) (hat : s.1 ≤ b.length) (hs : Sl w0 vb b) (hw : Below w0.heap.size w0 w) (hB : w0.heap.size ≤ B) (hBh : w0.heap.size ≤ Bh) (hne : Bh ≠ B)
  (hr : row? w B = some (rd vb s)) (hh : row? w Bh = some (hvA long k0 v0 (.slice none 0 0) (.slice none 0 0) (.slice none 0 0) sp ph num nl)) :
  Calls Try.prog 62 #[.pointer (some ⟨B, 0, none⟩), .pointer (some ⟨Bh, 0, none⟩), .int .u8 (n8 f : Nat)] w fun e w' => ∃ vd vs vt, e = .returned (.int .u64 ((aRest b (n8 f / 16 % 4 : Nat) s).2 : Nat)) ∧ row? w' B = some (rd vb (aRest b (n8 f / 16 % 4 : Nat) s).1) ∧
   row? w' Bh = some (hvA long (n8 f / 16 % 4 : Nat) (aVer b (n8 f / 16 % 4 : Nat) s).2 vd vs vt sp ph num nl) ∧
   w'.ownsRow w.heap.size 5 1 vd (aDst b (n8 f / 16 % 4 : Nat) s).2.length ((aDst b (n8 f / 16 % 4 : Nat) s).2.map bv) ∧
   w'.ownsRow w.heap.size 5 1 vs (aSrc b (n8 f / 16 % 4 : Nat) s).2.length ((aSrc b (n8 f / 16 % 4 : Nat) s).2.map bv) ∧
   w'.ownsRow w.heap.size 5 1 vt (aTok b (n8 f / 16 % 4 : Nat) s).2.length ((aTok b (n8 f / 16 % 4 : Nat) s).2.map bv) ∧ (∀ i j, vd.ownBlock = some i → vt.ownBlock = some j → i ≠ j) ∧ Mut2 B Bh w w' := by
 obtain ⟨i0, hi, hz0, hz1, hz2⟩ := info_parts info8
 have hkb := kind_byte f
 have hsz := hw.size
 have hBs := row?_lt hr
 have hBhs := row?_lt hh
 obtain ⟨k, hk⟩ : ∃ k : Int, k = (n8 f / 16 % 4 : Nat) := ⟨_, rfl⟩
 have hk4 : 0 ≤ k ∧ k < 4 := by omega
 rw [← hk] at hkb ⊢
 clear hk
 have hkw : wrap64 k = k := by unfold wrap64; omega
 -- the states, named
 obtain ⟨s1, hK⟩ : ∃ s1, aKind k s = s1 := ⟨_, rfl⟩
 have hle1 : s1.1 ≤ b.length := by rw [← hK]; unfold aKind; rw [rfail_at]; exact hat
 obtain ⟨q2, hV⟩ : ∃ q, rnum b 4 s1 = q := ⟨_, rfl⟩
 have hle2 : q2.1.1 ≤ b.length := by rw [← hV]; exact rnum_le b 4 s1 hle1
 have hv32 : q2.2 < 4294967296 := by rw [← hV]; exact rnum_lt b 4 s1
 have e2 : aVer b k s = q2 := by unfold aVer; rw [hK, hV]
 obtain ⟨s2, ver⟩ := q2
 obtain ⟨q3, hD⟩ : ∃ q, rid b 8 8 s2 = q := ⟨_, rfl⟩
 have hle3 : q3.1.1 ≤ b.length := by rw [← hD]; exact rid_le b 8 8 s2 hle2
 have e3 : aDst b k s = q3 := by unfold aDst; rw [e2]; exact hD
 obtain ⟨s3, d⟩ := q3
 obtain ⟨q4, hS⟩ : ∃ q, rid b 0 20 s3 = q := ⟨_, rfl⟩
 have hle4 : q4.1.1 ≤ b.length := by rw [← hS]; exact rid_le b 0 20 s3 hle3
 have e4 : aSrc b k s = q4 := by unfold aSrc; rw [e3]; exact hS
 obtain ⟨s4, src⟩ := q4
 rw [e2, e3, e4]
 simp only [] at hle2 hle3 hle4 hv32 ⊢
 obtain ⟨q5, hTN⟩ : ∃ q, rvar b s4 = q := ⟨_, rfl⟩
 have hle5 : q5.1.1 ≤ b.length := by rw [← hTN]; exact rvar_le b s4 hle4
 have htn5 : q5.2 < 18446744073709551616 := by rw [← hTN]; exact rvar_lt b s4
 obtain ⟨s5, tn⟩ := q5
 simp only [] at hle5 htn5
 obtain ⟨s6, hF6⟩ : ∃ s6, rfail (decide (100 < tn)) 5 s5 = s6 := ⟨_, rfl⟩
 have hle6 : s6.1 ≤ b.length := by rw [← hF6, rfail_at]; exact hle5
 obtain ⟨q7, hT7⟩ : ∃ q, rtake b (min tn 100) s6 = q := ⟨_, rfl⟩
 have hle7 : q7.1.1 ≤ b.length := by rw [← hT7]; exact rtake_le b _ s6 hle6
 have hlt7 : q7.2.length ≤ 100 := by have := rtake_len b (min tn 100) s6; rw [hT7] at this; omega
 obtain ⟨s7, tok⟩ := q7
 simp only [] at hle7 hlt7
 have HTN := Lib.hid hTN
 have HF6 := Lib.hid hF6
 have HT7 := Lib.hid hT7
 have HL7 := Lib.hid hlt7
 have HN5 := Lib.hid htn5
 clear hTN hF6 hT7 hlt7 htn5
 have hkn := row?_cell hh 1
 have fkn := row?_frozen hh 1
 have HH := Lib.hid hh
 have HR := Lib.hid hr
 have HK := Lib.hid hK
 have HV := Lib.hid hV
 have HD := Lib.hid hD
 have HS := Lib.hid hS
 have E4 := Lib.hid e4
 clear hh hr hK hV hD hS e2 e3 e4
 have hcase : ((k != 0) = false ∧ (k == 0) = true ∧ k = 0 ∧ rfail false 5 s = s1) ∨ ((k != 0) = true ∧ (k == 0) = false ∧ k ≠ 0 ∧ rfail (k != 2) 5 s = s1) := by
  have hK := HK.out
  unfold aKind at hK
  by_cases h : k = 0
  ·refine .inl ⟨by simp [h], by simp [h], h, ?_⟩
   rw [← hK, h]; rfl
  ·refine .inr ⟨by simp [h], by simp [h], h, ?_⟩
   rw [← hK, decide_eq_true h, Bool.true_and]
   congr 1
   by_cases h2 : k = 2 <;> simp [h2]
 clear HK
 rcases hcase with ⟨hb0, he0, hk0, hfl⟩ | ⟨hb0, he0, hk0, hfl⟩
 all_goals
  have HK0 := Lib.hid hk0
  have HFL := Lib.hid hfl
  clear hk0 hfl
  go_enter Try.func62, Try.ntmps62
  go_wp2_with fail
  have m1 : Mut2 B Bh w (w.setCell ⟨Bh, 1, none⟩ (.int .i64 k)) := ((Mut.refl Bh w).setCell 1 none _).right B
  have h1 : row? (w.setCell ⟨Bh, 1, none⟩ (.int .i64 k)) Bh = some (hvA long k v0 (.slice none 0 0) (.slice none 0 0) (.slice none 0 0) sp ph num nl) := by rw [row?_setCell_eq HH.out]; rfl
  have r1 : row? (w.setCell ⟨Bh, 1, none⟩ (.int .i64 k)) B = some (rd vb s) := by rw [row?_setCell_ne _ _ _ _ (by simpa using fun h => hne h.symm)]; exact HR.out
  generalize (w.setCell ⟨Bh, 1, none⟩ (.int .i64 k)) = w1 at m1 h1 r1 ⊢
  clear HH HR hkn fkn
  refine (fail_any w1 B vb s _ 5 r1).mono ?_
  rintro e w2 ⟨rfl, n2, r2⟩
  rw [HFL.out] at r2
  have h2 := n2.row h1 hne
  have m2 : Mut2 B Bh w w2 := m1.trans (n2.left Bh)
  have hw2 : Below w0.heap.size w0 w2 := hw.trans (m2.below hB hBh hsz)
  have H2 := Lib.hid h2
  have R2 := Lib.hid r2
  clear h1 r1 n2 m1 h2 r2 HFL
  go_wp2_with fail
  refine (rnumber_any b w0 w2 B vb s1 4 hb (by decide) hle1 hs hw2 hB R2.out).mono ?_
  rintro e w3 ⟨rfl, n3, r3⟩
  rw [HV.out] at r3 ⊢
  have h3 := n3.row H2.out hne
  have m3 : Mut2 B Bh w w3 := m2.trans (n3.left Bh)
  have f3 := row?_frozen h3 2
  have c3 := row?_cell h3 2
  have H3 := Lib.hid h3
  have R3 := Lib.hid r3
  clear H2 R2 h3 r3 m2 n3 hw2
  have hvw : IntKind.u32.wrap ((ver : Nat) : Int) = (ver : Nat) := by simp only [IntKind.wrap_u32]; omega
  go_wp2_with fail
  have m4 : Mut2 B Bh w (w3.setCell ⟨Bh, 2, none⟩ (.int .u32 (ver : Nat))) := m3.trans (((Mut.refl Bh w3).setCell 2 none _).right B)
  have h4 : row? (w3.setCell ⟨Bh, 2, none⟩ (.int .u32 (ver : Nat))) Bh = some (hvA long k ver (.slice none 0 0) (.slice none 0 0) (.slice none 0 0) sp ph num nl) := by rw [row?_setCell_eq H3.out]; rfl
  have r4 : row? (w3.setCell ⟨Bh, 2, none⟩ (.int .u32 (ver : Nat))) B = some (rd vb s2) := by rw [row?_setCell_ne _ _ _ _ (by simpa using fun h => hne h.symm)]; exact R3.out
  generalize (w3.setCell ⟨Bh, 2, none⟩ (.int .u32 (ver : Nat))) = w4 at m4 h4 r4 ⊢
  clear H3 R3 f3 c3 m3 hvw
  have hw4 : Below w0.heap.size w0 w4 := hw.trans (m4.below hB hBh hsz)
  have hz4 := m4.size
  refine (rid_any b w0 w4 B vb s2 8 8 hb hle2 hs hw4 hB r4).mono ?_
  rintro e w5 ⟨vd, rfl, od, n5, r5⟩
  rw [HD.out] at od r5
  have h5 := n5.row h4 hne
  have m5 : Mut2 B Bh w w5 := m4.trans (n5.left Bh)
  have od5 := own_lower od m4.size
  obtain ⟨av, cv, rfl, -, -, -⟩ := id (Own.sl od)
  have f5 := row?_frozen h5 3
  have c5 : w5.cell? ⟨Bh, 3, none⟩ = some (.slice none 0 0) := row?_cell h5 3
  have H5 := Lib.hid h5
  have R5 := Lib.hid r5
  have OD5 := Lib.hid od5
  clear h4 r4 n5 m4 h5 r5 od od5 hw4
  go_wp2_with fail
  have m6 : Mut2 B Bh w (w5.setCell ⟨Bh, 3, none⟩ (.slice av d.length cv)) := m5.trans (((Mut.refl Bh w5).setCell 3 none _).right B)
  have h6 : row? (w5.setCell ⟨Bh, 3, none⟩ (.slice av d.length cv)) Bh = some (hvA long k ver (.slice av d.length cv) (.slice none 0 0) (.slice none 0 0) sp ph num nl) := by rw [row?_setCell_eq H5.out]; rfl
  have r6 : row? (w5.setCell ⟨Bh, 3, none⟩ (.slice av d.length cv)) B = some (rd vb s3) := by rw [row?_setCell_ne _ _ _ _ (by simpa using fun h => hne h.symm)]; exact R5.out
  have od6 := ((Mut.refl Bh w5).setCell 3 none (.slice av d.length cv)).own OD5.out hBhs
  generalize (w5.setCell ⟨Bh, 3, none⟩ (.slice av d.length cv)) = w6 at m6 h6 r6 od6 ⊢
  clear H5 R5 f5 c5 m5 OD5
  have hw6 : Below w0.heap.size w0 w6 := hw.trans (m6.below hB hBh hsz)
  have hz6 := m6.size
  refine (rid_any b w0 w6 B vb s3 0 20 hb hle3 hs hw6 hB r6).mono ?_
  rintro e w7 ⟨vs, rfl, os, n7, r7⟩
  rw [HS.out] at os r7
  have h7 := n7.row h6 hne
  have m7 : Mut2 B Bh w w7 := m6.trans (n7.left Bh)
  have os7 := own_lower os m6.size
  have od7 := n7.own od6 hBs
  obtain ⟨as_, cs, rfl, -, -, -⟩ := id (Own.sl os)
  have f7 := row?_frozen h7 4
  have c7 : w7.cell? ⟨Bh, 4, none⟩ = some (.slice none 0 0) := row?_cell h7 4
  have c71 : w7.cell? ⟨Bh, 1, none⟩ = some (.int .i64 k) := row?_cell h7 1
  have H7 := Lib.hid h7
  have R7 := Lib.hid r7
  have OD7 := Lib.hid od7
  have OS7 := Lib.hid os7
  clear h6 r6 n7 m6 h7 r7 od6 od7 os os7 hw6
  go_wp2_with fail
  have m8 : Mut2 B Bh w (w7.setCell ⟨Bh, 4, none⟩ (.slice as_ src.length cs)) := m7.trans (((Mut.refl Bh w7).setCell 4 none _).right B)
  have h8 : row? (w7.setCell ⟨Bh, 4, none⟩ (.slice as_ src.length cs)) Bh = some (hvA long k ver (.slice av d.length cv) (.slice as_ src.length cs) (.slice none 0 0) sp ph num nl) := by rw [row?_setCell_eq H7.out]; rfl
  have r8 : row? (w7.setCell ⟨Bh, 4, none⟩ (.slice as_ src.length cs)) B = some (rd vb s4) := by rw [row?_setCell_ne _ _ _ _ (by simpa using fun h => hne h.symm)]; exact R7.out
  have od8 := ((Mut.refl Bh w7).setCell 4 none (.slice as_ src.length cs)).own OD7.out hBhs
  have os8 := ((Mut.refl Bh w7).setCell 4 none (.slice as_ src.length cs)).own OS7.out hBhs
  generalize (w7.setCell ⟨Bh, 4, none⟩ (.slice as_ src.length cs)) = w8 at m8 h8 r8 od8 os8 ⊢
  clear H7 R7 f7 c7 c71 m7 OD7 OS7
  have hw8 : Below w0.heap.size w0 w8 := hw.trans (m8.below hB hBh hsz)
  have hz8 := m8.size
 ·have hk0 := HK0.out
  refine (rvar_any b w0 w8 B vb s4 hb hle4 hs hw8 hB r8).mono ?_
  rintro e w9 ⟨rfl, n9, r9⟩
  rw [HTN.out] at r9 ⊢
  have h9 := n9.row h8 hne
  have m9 : Mut2 B Bh w w9 := m8.trans (n9.left Bh)
  have od9 := n9.own od8 hBs
  have os9 := n9.own os8 hBs
  have H9 := Lib.hid h9
  have R9 := Lib.hid r9
  have OD9 := Lib.hid od9
  have OS9 := Lib.hid os9
  clear h8 r8 n9 m8 h9 r9 od8 od9 os8 os9 hw8 hk0
  go_wp2_with fail
  have hk0 := HK0.out
  refine (fail_any w9 B vb s5 _ 5 R9.out).mono ?_
  rintro e w10 ⟨rfl, n10, r10⟩
  rw [show decide ((100 : Int) < (tn : Nat)) = decide (100 < tn) from decide_eq_decide.2 (by omega), HF6.out] at r10
  have h10 := n10.row H9.out hne
  have m10 : Mut2 B Bh w w10 := m9.trans (n10.left Bh)
  have od10 := n10.own OD9.out hBs
  have os10 := n10.own OS9.out hBs
  have hw10 : Below w0.heap.size w0 w10 := hw.trans (m10.below hB hBh hsz)
  have H10 := Lib.hid h10
  have R10 := Lib.hid r10
  have OD10 := Lib.hid od10
  have OS10 := Lib.hid os10
  have eT : aTok b k s = (s7, tok) := by
   have e5 : aTokN b k s = (s5, tn) := by unfold aTokN; rw [E4.out]; exact HTN.out
   unfold aTok; rw [if_pos hk0, e5]; simp only []; rw [HF6.out, HT7.out]
  have eR : aRest b k s = rvar b s7 := by unfold aRest; rw [eT]
  have ET := Lib.hid eT
  have ER := Lib.hid eR
  clear H9 R9 OD9 OS9 n10 m9 h10 r10 od10 os10 eT eR hk0
  have hz10 := m10.size
  by_cases hm : tn ≤ 100
  ·have hT7 := HT7.out
   rw [Nat.min_eq_left hm] at hT7
   have HT7' := Lib.hid hT7
   clear hT7
   go_wp2_with fail
   refine (take_any b w0 w10 B vb s6 tn hb (by omega) hle6 hs hw10 hB R10.out).mono ?_
   rintro e w11 ⟨v0, rfl, sv, n11, r11⟩
   rw [HT7'.out] at sv r11
   clear HT7'
   have h11 := n11.row H10.out hne
   have m11 : Mut2 B Bh w w11 := m10.trans (n11.left Bh)
   have hw11 : Below w0.heap.size w0 w11 := hw.trans (m11.below hB hBh hsz)
   have sv11 : Sl w11 v0 tok := sv.below hw11
   have od11 := n11.own OD10.out hBs
   have os11 := n11.own OS10.out hBs
   have hB11 := row?_lt h11
   have H11 := Lib.hid h11
   have R11 := Lib.hid r11
   have OD11 := Lib.hid od11
   have OS11 := Lib.hid os11
   have SV11 := Lib.hid sv11
   clear H10 R10 OD10 OS10 n11 m10 h11 r11 od11 os11 sv sv11 hw10 hm
   go_wp2_with (at_builtin; refine app_sl rfl _ _ 27 rfl w11.heap.size 5 i0 Try.underlying27 hi hz0 hz1 hz2 (.slice none 0 0) [] rfl (World.ownsRow_nil _ _ _ _) v0 tok rfl SV11.out (by have := HL7.out; simp; omega) (Nat.le_refl _) ?_)
   intro vt w12 ot hgrow12
   have b12 : Below w11.heap.size w11 w12 := (Below.refl _ _).grown hgrow12 (Nat.le_refl _) (by intro k hk; cases hk)
   have h12 := Rg.stable_row b12 H11.out
   have r12 := Rg.stable_row b12 R11.out
   have od12 := own_below OD11.out b12
   have os12 := own_below OS11.out b12
   have ot12 := own_lower ot m11.size
   have hdis : ∀ i j, (Value.slice av d.length cv).ownBlock = some i → vt.ownBlock = some j → i ≠ j := fun i j hi hj => by have h1 := (OD11.out.lt i hi).2; have h2 := (ot.lt j hj).1; omega
   have m12 : Mut2 B Bh w w12 := m11.trans ((Mut.of_below (B := B) b12).left Bh)
   obtain ⟨at_, ct, rfl, -, -, -⟩ := id (Own.sl (l := tok) ot)
   have f12 := row?_frozen h12 5
   have c12 : w12.cell? ⟨Bh, 5, none⟩ = some (.slice none 0 0) := row?_cell h12 5
   have H12 := Lib.hid h12
   have R12 := Lib.hid r12
   have OD12 := Lib.hid od12
   have OS12 := Lib.hid os12
   have OT12 := Lib.hid ot12
   have HDIS := Lib.hid hdis
   clear hdis
   clear H11 R11 OD11 OS11 SV11 m11 h12 r12 od12 os12 ot ot12 hw11 hgrow12 b12
   go_wp2_with fail
   have m13 : Mut2 B Bh w (w12.setCell ⟨Bh, 5, none⟩ (.slice at_ tok.length ct)) := m12.trans (((Mut.refl Bh w12).setCell 5 none _).right B)
   have h13 : row? (w12.setCell ⟨Bh, 5, none⟩ (.slice at_ tok.length ct)) Bh = some (hvA long k ver (.slice av d.length cv) (.slice as_ src.length cs) (.slice at_ tok.length ct) sp ph num nl) := by rw [row?_setCell_eq H12.out]; rfl
   have r13 : row? (w12.setCell ⟨Bh, 5, none⟩ (.slice at_ tok.length ct)) B = some (rd vb s7) := by rw [row?_setCell_ne _ _ _ _ (by simpa using fun h => hne h.symm)]; exact R12.out
   have od13 := ((Mut.refl Bh w12).setCell 5 none (.slice at_ tok.length ct)).own OD12.out hBhs
   have os13 := ((Mut.refl Bh w12).setCell 5 none (.slice at_ tok.length ct)).own OS12.out hBhs
   have ot13 := ((Mut.refl Bh w12).setCell 5 none (.slice at_ tok.length ct)).own OT12.out hBhs
   generalize (w12.setCell ⟨Bh, 5, none⟩ (.slice at_ tok.length ct)) = w13 at m13 h13 r13 od13 os13 ot13 ⊢
   clear H12 R12 OD12 OS12 OT12 f12 c12 m12
   have hw13 : Below w0.heap.size w0 w13 := hw.trans (m13.below hB hBh hsz)
   refine (rvar_any b w0 w13 B vb s7 hb hle7 hs hw13 hB r13).mono ?_
   rintro e w14 ⟨rfl, n14, r14⟩
   have h14 := n14.row h13 hne
   have m14 : Mut2 B Bh w w14 := m13.trans (n14.left Bh)
   have od14 := n14.own od13 hBs
   have os14 := n14.own os13 hBs
   have ot14 := n14.own ot13 hBs
   have H14 := Lib.hid h14
   have R14 := Lib.hid r14
   have OD14 := Lib.hid od14
   have OS14 := Lib.hid os14
   have OT14 := Lib.hid ot14
   clear h13 r13 n14 m13 h14 r14 od13 od14 os13 os14 ot13 ot14 hw13
   go_wp2_with fail
   go_ret
   rw [ET.out, ER.out]
   exact ⟨_, _, _, rfl, R14.out, H14.out, OD14.out, OS14.out, OT14.out, HDIS.out, m14⟩
  ·have hT7 := HT7.out
   rw [Nat.min_eq_right (by omega)] at hT7
   have HT7' := Lib.hid hT7
   clear hT7
   go_wp2_with fail
   refine (take_any b w0 w10 B vb s6 100 hb (by omega) hle6 hs hw10 hB R10.out).mono ?_
   rintro e w11 ⟨v0, rfl, sv, n11, r11⟩
   rw [HT7'.out] at sv r11
   clear HT7'
   have h11 := n11.row H10.out hne
   have m11 : Mut2 B Bh w w11 := m10.trans (n11.left Bh)
   have hw11 : Below w0.heap.size w0 w11 := hw.trans (m11.below hB hBh hsz)
   have sv11 : Sl w11 v0 tok := sv.below hw11
   have od11 := n11.own OD10.out hBs
   have os11 := n11.own OS10.out hBs
   have hB11 := row?_lt h11
   have H11 := Lib.hid h11
   have R11 := Lib.hid r11
   have OD11 := Lib.hid od11
   have OS11 := Lib.hid os11
   have SV11 := Lib.hid sv11
   clear H10 R10 OD10 OS10 n11 m10 h11 r11 od11 os11 sv sv11 hw10 hm
   go_wp2_with (at_builtin; refine app_sl rfl _ _ 27 rfl w11.heap.size 5 i0 Try.underlying27 hi hz0 hz1 hz2 (.slice none 0 0) [] rfl (World.ownsRow_nil _ _ _ _) v0 tok rfl SV11.out (by have := HL7.out; simp; omega) (Nat.le_refl _) ?_)
   intro vt w12 ot hgrow12
   have b12 : Below w11.heap.size w11 w12 := (Below.refl _ _).grown hgrow12 (Nat.le_refl _) (by intro k hk; cases hk)
   have h12 := Rg.stable_row b12 H11.out
   have r12 := Rg.stable_row b12 R11.out
   have od12 := own_below OD11.out b12
   have os12 := own_below OS11.out b12
   have ot12 := own_lower ot m11.size
   have hdis : ∀ i j, (Value.slice av d.length cv).ownBlock = some i → vt.ownBlock = some j → i ≠ j := fun i j hi hj => by have h1 := (OD11.out.lt i hi).2; have h2 := (ot.lt j hj).1; omega
   have m12 : Mut2 B Bh w w12 := m11.trans ((Mut.of_below (B := B) b12).left Bh)
   obtain ⟨at_, ct, rfl, -, -, -⟩ := id (Own.sl (l := tok) ot)
   have f12 := row?_frozen h12 5
   have c12 : w12.cell? ⟨Bh, 5, none⟩ = some (.slice none 0 0) := row?_cell h12 5
   have H12 := Lib.hid h12
   have R12 := Lib.hid r12
   have OD12 := Lib.hid od12
   have OS12 := Lib.hid os12
   have OT12 := Lib.hid ot12
   have HDIS := Lib.hid hdis
   clear hdis
   clear H11 R11 OD11 OS11 SV11 m11 h12 r12 od12 os12 ot ot12 hw11 hgrow12 b12
   go_wp2_with fail
   have m13 : Mut2 B Bh w (w12.setCell ⟨Bh, 5, none⟩ (.slice at_ tok.length ct)) := m12.trans (((Mut.refl Bh w12).setCell 5 none _).right B)
   have h13 : row? (w12.setCell ⟨Bh, 5, none⟩ (.slice at_ tok.length ct)) Bh = some (hvA long k ver (.slice av d.length cv) (.slice as_ src.length cs) (.slice at_ tok.length ct) sp ph num nl) := by rw [row?_setCell_eq H12.out]; rfl
   have r13 : row? (w12.setCell ⟨Bh, 5, none⟩ (.slice at_ tok.length ct)) B = some (rd vb s7) := by rw [row?_setCell_ne _ _ _ _ (by simpa using fun h => hne h.symm)]; exact R12.out
   have od13 := ((Mut.refl Bh w12).setCell 5 none (.slice at_ tok.length ct)).own OD12.out hBhs
   have os13 := ((Mut.refl Bh w12).setCell 5 none (.slice at_ tok.length ct)).own OS12.out hBhs
   have ot13 := ((Mut.refl Bh w12).setCell 5 none (.slice at_ tok.length ct)).own OT12.out hBhs
   generalize (w12.setCell ⟨Bh, 5, none⟩ (.slice at_ tok.length ct)) = w13 at m13 h13 r13 od13 os13 ot13 ⊢
   clear H12 R12 OD12 OS12 OT12 f12 c12 m12
   have hw13 : Below w0.heap.size w0 w13 := hw.trans (m13.below hB hBh hsz)
   refine (rvar_any b w0 w13 B vb s7 hb hle7 hs hw13 hB r13).mono ?_
   rintro e w14 ⟨rfl, n14, r14⟩
   have h14 := n14.row h13 hne
   have m14 : Mut2 B Bh w w14 := m13.trans (n14.left Bh)
   have od14 := n14.own od13 hBs
   have os14 := n14.own os13 hBs
   have ot14 := n14.own ot13 hBs
   have H14 := Lib.hid h14
   have R14 := Lib.hid r14
   have OD14 := Lib.hid od14
   have OS14 := Lib.hid os14
   have OT14 := Lib.hid ot14
   clear h13 r13 n14 m13 h14 r14 od13 od14 os13 os14 ot13 ot14 hw13
   go_wp2_with fail
   go_ret
   rw [ET.out, ER.out]
   exact ⟨_, _, _, rfl, R14.out, H14.out, OD14.out, OS14.out, OT14.out, HDIS.out, m14⟩
 ·have hk0 := HK0.out
  refine (rvar_any b w0 w8 B vb s4 hb hle4 hs hw8 hB r8).mono ?_
  rintro e w9 ⟨rfl, n9, r9⟩
  have h9 := n9.row h8 hne
  have m9 : Mut2 B Bh w w9 := m8.trans (n9.left Bh)
  have od9 := n9.own od8 hBs
  have os9 := n9.own os8 hBs
  have eT : aTok b k s = (s4, []) := by unfold aTok; rw [if_neg hk0, E4.out]
  have eR : aRest b k s = rvar b s4 := by unfold aRest; rw [eT]
  have H9 := Lib.hid h9
  have R9 := Lib.hid r9
  have OD9 := Lib.hid od9
  have OS9 := Lib.hid os9
  have ET := Lib.hid eT
  have ER := Lib.hid eR
  clear h8 r8 n9 m8 h9 r9 od8 od9 os8 os9 hw8 hk0 eT eR
  go_wp2_with fail
  go_ret
  rw [ET.out, ER.out]
  exact ⟨_, _, _, rfl, R9.out, H9.out, OD9.out, OS9.out, World.ownsRow_nil _ _ _ _, fun i j _ hj => by simp [Value.ownBlock] at hj, m9⟩
end Go.Proofs.Ytjlpppnpdgenfaa

end
section
namespace Hdr
open Go.Rw
theorem rfail_zero {is : Bool} {x : Int} {s : Nat × Int} (hx : x ≠ 0) (h : (rfail is x s).2 = 0) : is = false ∧ s.2 = 0 := by
 obtain ⟨a, e⟩ := s
 cases is
 ·exact ⟨rfl, by simpa [rfail] using h⟩
 ·by_cases he : e = 0
  ·subst he; simp [rfail] at h; exact absurd h hx
  ·simp [rfail, he] at h
theorem rtake_zero {b : List UInt8} {n : Nat} {s : Nat × Int} (h : (rtake b n s).1.2 = 0) : s.2 = 0 := by
 by_cases hs : s.2 = 0
 ·exact hs
 ·rw [rtake_bad hs] at h; exact h
theorem aRest_le (b : List UInt8) (k : Int) (s : Nat × Int) (h : s.1 ≤ b.length) : (aRest b k s).1.1 ≤ b.length := by
 have h1 : (aKind k s).1 ≤ b.length := by unfold aKind; rw [rfail_at]; exact h
 have h2 : (aVer b k s).1.1 ≤ b.length := rnum_le _ _ _ h1
 have h3 : (aDst b k s).1.1 ≤ b.length := rid_le _ _ _ _ h2
 have h4 : (aSrc b k s).1.1 ≤ b.length := rid_le _ _ _ _ h3
 have h5 : (aTokN b k s).1.1 ≤ b.length := rvar_le _ _ h4
 have h6 : (aTok b k s).1.1 ≤ b.length := by
  unfold aTok; split
  ·exact rtake_le _ _ _ (by rw [rfail_at]; exact h5)
  ·exact h4
 exact rvar_le _ _ h6
theorem aRest_lt (b : List UInt8) (k : Int) (s : Nat × Int) : (aRest b k s).2 < 18446744073709551616 := rvar_lt _ _
end Hdr
namespace Go.Proofs.Ytjlpppnpdgenfaa
open Go.RowKit Go.Rw Hdr
attribute [local go_sem ↓] hvA_0 hvA_1 hvA_2 hvA_3 hvA_4 hvA_5 hvA_6 hvA_7 hvA_8 hvA_9
attribute [local go_sem ↓] shift_shl8 shift_shr8 shift_shl64 shift_shr64
theorem wrap_small (r : Nat) (h : r ≤ 1000000) : wrap64 ((r : Nat) : Int) = (r : Nat) := by unfold wrap64; omega
set_option maxRecDepth 100000 in
set_option maxHeartbeats 2000000 in
theorem longs_any (b : List UInt8) (w0 w : World) (B Bh : Nat) (vb : Value) (s : Nat × Int) (f : UInt8) (long : Bool) (k0 : Int) (v0 : Nat) (sp ph : Bool) (num : Nat) (nl : Nat) (hnl : nl ≤ 4) (hb : b.length ≤ 1000000) (hat : s.1 ≤ b.length) (hs : Sl w0 vb b) (hw : Below w0.heap.size w0 w) (hB : w0.heap.size ≤ B) (hBh : w0.heap.size ≤ Bh) (hne : Bh ≠ B)
  (hr : row? w B = some (rd vb s)) (hh : row? w Bh = some (hvA long k0 v0 (.slice none 0 0) (.slice none 0 0) (.slice none 0 0) sp ph num nl)) (k : Int) (s1 : Nat × Int) (hk : k = (n8 f / 16 % 4 : Nat)) (hs1 : rfail (f &&& 12 != 0) 5 s = s1) :
  Calls Try.prog 63 #[.pointer (some ⟨B, 0, none⟩), .pointer (some ⟨Bh, 0, none⟩), .int .u8 (n8 f : Nat)] w fun e w' => ∃ vd vs vt, e = .returned (.int .i64 ((lEnd b k nl s1).2 : Nat)) ∧ row? w' B = some (rd vb (lEnd b k nl s1).1) ∧
   row? w' Bh = some (hvA long k (aVer b k s1).2 vd vs vt sp ph (lNum b k nl s1).2 nl) ∧
   w'.ownsRow w.heap.size 5 1 vd (aDst b k s1).2.length ((aDst b k s1).2.map bv) ∧
   w'.ownsRow w.heap.size 5 1 vs (aSrc b k s1).2.length ((aSrc b k s1).2.map bv) ∧
   w'.ownsRow w.heap.size 5 1 vt (aTok b k s1).2.length ((aTok b k s1).2.map bv) ∧ (∀ i j, vd.ownBlock = some i → vt.ownBlock = some j → i ≠ j) ∧ Mut2 B Bh w w' := by
 have hsz := hw.size
 have hBs := row?_lt hr
 have hBhs := row?_lt hh
 have hle1 : s1.1 ≤ b.length := by rw [← hs1, rfail_at]; exact hat
 have hle2 := aRest_le b k s1 hle1
 have hlt2 := aRest_lt b k s1
 have hah := fun W hr hh hw' => ahead_any b w0 W B Bh vb s1 f long k0 v0 sp ph num nl hb hle1 hs hw' hB hBh hne hr hh
 rw [← hk] at hah
 -- the states, named
 have hlN : ∀ x, x = aRest b k s1 → lNum b k nl s1 = rnum b nl (rfail (decide (x.2 < nl)) 5 x.1) := fun x hx => by rw [hx]; rfl
 have hlE : ∀ x y, x = aRest b k s1 → y = lNum b k nl s1 → lEnd b k nl s1 = if y.1.2 ≠ 0 then (y.1, 0) else (rfail (decide (b.length - y.1.1 < x.2 - nl)) 3 y.1, min (x.2 - nl) b.length) := fun x y hx hy => by rw [hx, hy]; rfl
 generalize aRest b k s1 = q at *
 generalize (aVer b k s1).2 = ver at *
 generalize (aDst b k s1).2 = d at *
 generalize (aSrc b k s1).2 = src at *
 generalize (aTok b k s1).2 = tok at *
 replace hlN := hlN q rfl
 obtain ⟨s2, n⟩ := q
 simp only [] at hle2 hlt2 hlN hah
 obtain ⟨s3, hs3⟩ : ∃ s3, rfail (decide (n < nl)) 5 s2 = s3 := ⟨_, rfl⟩
 rw [hs3] at hlN
 have hle3 : s3.1 ≤ b.length := by rw [← hs3, rfail_at]; exact hle2
 have hge : s3.2 = 0 → nl ≤ n := fun h => by
  rw [← hs3] at h
  have := (rfail_zero (by decide) h).1
  simpa using this
 obtain ⟨q4, hq4⟩ : ∃ q, rnum b nl s3 = q := ⟨_, rfl⟩
 rw [hq4] at hlN
 have hle4 : q4.1.1 ≤ b.length := by rw [← hq4]; exact rnum_le _ _ _ hle3
 have hge4 : q4.1.2 = 0 → nl ≤ n := fun h => hge (by rw [← hq4] at h; exact rtake_zero h)
 replace hlE := hlE (s2, n) q4 rfl hlN.symm
 obtain ⟨s4, m⟩ := q4
 rw [hlN, hlE]
 simp only [] at hle4 hge4 ⊢
 obtain ⟨q5, hE⟩ : ∃ q, (if s4.2 ≠ 0 then (s4, 0) else (rfail (decide (b.length - s4.1 < n - nl)) 3 s4, min (n - nl) b.length)) = q := ⟨_, rfl⟩
 rw [hE]
 have HE := Lib.hid hE
 clear hE
 obtain ⟨s5, rr⟩ := q5
 simp only []
 obtain ⟨ao, cap, rfl, -, -, -⟩ := id hs
 have HS1 := Lib.hid hs1
 have HS3 := Lib.hid hs3
 have HQ4 := Lib.hid hq4
 have HAH := Lib.hid hah
 have HR := Lib.hid hr
 have HH := Lib.hid hh
 have HGE := Lib.hid hge4
 have HB := Lib.hid hb
 have HLT := Lib.hid hlt2
 clear hs1 hs3 hq4 hah hr hh hge hge4 hlN hlE hk hlt2
 go_enter Try.func63, Try.ntmps63
 go_wp2_with fail
 refine (fail_any w B _ s _ 5 HR.out).mono ?_
 rintro e w1 ⟨rfl, n1, r1⟩
 rw [HS1.out] at r1
 have h1 := n1.row HH.out hne
 have m1 : Mut2 B Bh w w1 := n1.left Bh
 have hw1 : Below w0.heap.size w0 w1 := hw.trans (m1.below hB hBh hsz)
 have H1 := Lib.hid h1
 have R1 := Lib.hid r1
 clear HH HR n1 h1 r1
 go_wp2_with fail
 refine (HAH.out w1 R1.out H1.out hw1).mono ?_
 rintro e w2 ⟨vd, vs, vt, rfl, r2, h2, od2, os2, ot2, hdis, n2⟩
 have HDIS := Lib.hid hdis
 clear hdis
 have m2 : Mut2 B Bh w w2 := m1.trans n2
 have od2' := own_lower od2 m1.size
 have os2' := own_lower os2 m1.size
 have ot2' := own_lower ot2 m1.size
 have c2 : w2.cell? ⟨Bh, 9, none⟩ = some (.int .i64 (nl : Nat)) := row?_cell h2 9
 have H2 := Lib.hid h2
 have R2 := Lib.hid r2
 have OD2 := Lib.hid od2'
 have OS2 := Lib.hid os2'
 have OT2 := Lib.hid ot2'
 have hnw : IntKind.u64.wrap ((nl : Nat) : Int) = (nl : Nat) := by simp only [IntKind.wrap_u64]; omega
 clear HAH H1 R1 n2 m1 h2 r2 od2 os2 ot2 od2' os2' ot2' hw1
 go_wp2_with fail
 refine (fail_any w2 B _ s2 _ 5 R2.out).mono ?_
 rintro e w3 ⟨rfl, n3, r3⟩
 rw [HS3.out] at r3
 have h3 := n3.row H2.out hne
 have m3 : Mut2 B Bh w w3 := m2.trans (n3.left Bh)
 have hw3 : Below w0.heap.size w0 w3 := hw.trans (m3.below hB hBh hsz)
 have od3 := n3.own OD2.out hBs
 have os3 := n3.own OS2.out hBs
 have ot3 := n3.own OT2.out hBs
 have c3 : w3.cell? ⟨Bh, 9, none⟩ = some (.int .i64 (nl : Nat)) := row?_cell h3 9
 have H3 := Lib.hid h3
 have R3 := Lib.hid r3
 have OD3 := Lib.hid od3
 have OS3 := Lib.hid os3
 have OT3 := Lib.hid ot3
 clear H2 R2 OD2 OS2 OT2 n3 m2 h3 r3 od3 os3 ot3 c2
 go_wp2_with fail
 refine (rnumber_any b w0 w3 B _ s3 nl hb hnl hle3 hs hw3 hB R3.out).mono ?_
 rintro e w4 ⟨rfl, n4, r4⟩
 rw [HQ4.out] at r4 ⊢
 have h4 := n4.row H3.out hne
 have m4 : Mut2 B Bh w w4 := m3.trans (n4.left Bh)
 have od4 := n4.own OD3.out hBs
 have os4 := n4.own OS3.out hBs
 have ot4 := n4.own OT3.out hBs
 have f4 := row?_frozen h4 8
 have c4 := row?_cell h4 8
 have r40 := row?_cell r4 0
 have r41 := row?_cell r4 1
 have r42 := row?_cell r4 2
 rw [rd_0] at r40
 rw [rd_1] at r41
 rw [rd_2] at r42
 have c49 : w4.cell? ⟨Bh, 9, none⟩ = some (.int .i64 (nl : Nat)) := row?_cell h4 9
 have H4 := Lib.hid h4
 have R4 := Lib.hid r4
 have OD4 := Lib.hid od4
 have OS4 := Lib.hid os4
 have OT4 := Lib.hid ot4
 clear H3 R3 OD3 OS3 OT3 n4 m3 h4 r4 od4 os4 ot4 c3 hw3
 by_cases he : s4.2 = 0
 ·have hge4 := HGE.out he
  have hE := HE.out
  rw [if_neg (by simpa using he)] at hE
  injection hE with hE1 hE2
  have hsub : IntKind.u64.wrap (((n : Nat) : Int) - (nl : Nat)) = ((n - nl : Nat) : Int) := by have := HLT.out; simp only [IntKind.wrap_u64]; omega
  have HE1 := Lib.hid hE1
  have HE2 := Lib.hid hE2
  have HE0 := Lib.hid he
  clear HE hE1 hE2
  go_wp2_with fail
  have h5 : row? (w4.setCell ⟨Bh, 8, none⟩ (.int .u64 (m : Nat))) Bh = some (hvA long k ver vd vs vt sp ph m nl) := by rw [row?_setCell_eq H4.out]; rfl
  have r5 : row? (w4.setCell ⟨Bh, 8, none⟩ (.int .u64 (m : Nat))) B = some (rd (.slice ao b.length cap) s4) := by rw [row?_setCell_ne _ _ _ _ (by simpa using fun h => hne h.symm)]; exact R4.out
  have n5 := (Mut.refl Bh w4).setCell 8 none (.int .u64 (m : Nat))
  have od5 := n5.own OD4.out hBhs
  have os5 := n5.own OS4.out hBhs
  have ot5 := n5.own OT4.out hBhs
  have m5 := m4.trans (n5.right B)
  generalize (w4.setCell ⟨Bh, 8, none⟩ (.int .u64 (m : Nat))) = w5 at *
  have c0 := row?_cell r5 0
  have c1 := row?_cell r5 1
  rw [rd_0] at c0
  rw [rd_1] at c1
  have H5 := Lib.hid h5
  have R5 := Lib.hid r5
  have OD5 := Lib.hid od5
  have OS5 := Lib.hid os5
  have OT5 := Lib.hid ot5
  clear H4 R4 OD4 OS4 OT4 f4 c4 r40 r41 r42 c49 n5 m4 h5 r5 od5 os5 ot5
  have hw1 : wrap64 ((b.length : Int) - (s4.1 : Nat)) = ((b.length - s4.1 : Nat) : Int) := by unfold wrap64; omega
  have hw2 : IntKind.u64.wrap ((b.length - s4.1 : Nat) : Int) = ((b.length - s4.1 : Nat) : Int) := by simp only [IntKind.wrap_u64]; omega
  refine Rg.wp_region_plan (Rg.row [(0, 3), (1, 3), (2, 3), (3, 3), (4, 3), (5, 0), (6, 0), (7, 3), (8, 3), (9, 3), (10, 0), (11, 3), (12, 3), (13, 3)] [14]) [14] (by kernel_rfl) (by kernel_rfl) ?_
  simp only [Rg.row, Rg.PT.map, List.map_cons, List.map_nil, List.getD_cons_zero, List.getD_cons_succ]
  go_wp2_with (first
   |(with_reducible refine Rg.plan_pure ?_ ?_ ?_); kernel_rfl; kernel_rfl; intro _ _|(with_reducible refine Rg.plan_take ?_ ?_ ?_); kernel_rfl; kernel_rfl; intro _ _|(with_reducible refine Rg.plan_keep ?_ ?_); kernel_rfl; intro K hK|refine hK _ _ (Rg.Keep.refl _) ?_; clear hK|refine hK _ _ (Rg.Keep.of_below (by assumption)) ?_; clear hK|(with_reducible refine Rg.plan_skip ?_ ?_); kernel_rfl|(with_reducible refine Rg.plan_done ?_)|(with_reducible refine Rg.calm_normal ?_))
  have rD : row? w5.drew B = some (rd (.slice ao b.length cap) s4) := (row?_drew _ _).trans R5.out
  have hD : row? w5.drew Bh = some (hvA long k ver vd vs vt sp ph m nl) := (row?_drew _ _).trans H5.out
  refine (fail_any w5.drew B _ s4 _ 3 rD).mono ?_
  rintro e w6 ⟨rfl, n6, r6⟩
  rw [show decide ((b.length : Int) - (s4.1 : Nat) < ((n - nl : Nat) : Int)) = decide (b.length - s4.1 < n - nl) from decide_eq_decide.2 (by omega), HE1.out] at r6
  have h6 := n6.row hD hne
  have m6 : Mut2 B Bh w w6 := m5.trans (((Mut.refl B w5).drew.trans n6).left Bh)
  have od6 := ((Mut.refl B w5).drew.trans n6).own OD5.out hBs
  have os6 := ((Mut.refl B w5).drew.trans n6).own OS5.out hBs
  have ot6 := ((Mut.refl B w5).drew.trans n6).own OT5.out hBs
  have c0 := row?_cell r6 0
  rw [rd_0] at c0
  have H6 := Lib.hid h6
  have R6 := Lib.hid r6
  have OD6 := Lib.hid od6
  have OS6 := Lib.hid os6
  have OT6 := Lib.hid ot6
  have hE2 := HE2.out
  clear H5 R5 OD5 OS5 OT5 c1 rD hD n6 m5 h6 r6 od6 os6 ot6 HE1 HE2
  have hw3 : IntKind.u64.wrap ((b.length : Nat) : Int) = (b.length : Nat) := by have := HB.out; simp only [IntKind.wrap_u64]; omega
  have hw4 : wrap64 ((b.length : Nat) : Int) = (b.length : Nat) := by have := HB.out; unfold wrap64; omega
  generalize n - nl = r at *
  clear hsub hw1 hw2
  have hb6 := HB.out
  clear hnw he hge4 HE0 HGE HLT HQ4 HS3 HS1 hle4 hle3 hle2 hle1
  have HW3 := Lib.hid hw3
  have HW4 := Lib.hid hw4
  have M6 := Lib.hid m6
  have HE3 := Lib.hid hE2
  clear hw3 hw4 m6 hE2 hb6 hb hne hBs hBhs hB hBh hsz hw hat hs hnl
  by_cases hm : r ≤ b.length
  ·have hw5 : wrap64 ((r : Nat) : Int) = (r : Nat) := wrap_small r (Nat.le_trans hm HB.out)
   have hE2 := HE3.out
   rw [Nat.min_eq_left hm] at hE2
   subst hE2
   have hw3 := HW3.out
   clear HE3
   go_wp2_with (first
    |(with_reducible refine Rg.plan_pure ?_ ?_ ?_); kernel_rfl; kernel_rfl; intro _ _|(with_reducible refine Rg.plan_take ?_ ?_ ?_); kernel_rfl; kernel_rfl; intro _ _|(with_reducible refine Rg.plan_keep ?_ ?_); kernel_rfl; intro K hK|refine hK _ _ (Rg.Keep.refl _) ?_; clear hK|refine hK _ _ (Rg.Keep.of_below (by assumption)) ?_; clear hK|(with_reducible refine Rg.plan_skip ?_ ?_); kernel_rfl|(with_reducible refine Rg.plan_done ?_)|(with_reducible refine Rg.calm_normal ?_))
   go_ret
   exact ⟨_, _, _, congrArg (fun x => Ending.returned (Value.int .i64 x)) hw5, R6.out, H6.out, OD6.out, OS6.out, OT6.out, HDIS.out, M6.out⟩
  ·have hE2 := HE3.out
   rw [Nat.min_eq_right (Nat.le_of_not_le hm)] at hE2
   subst hE2
   have hw3 := HW3.out
   have hw4 := HW4.out
   clear HE3
   go_wp2_with (first
    |(with_reducible refine Rg.plan_pure ?_ ?_ ?_); kernel_rfl; kernel_rfl; intro _ _|(with_reducible refine Rg.plan_take ?_ ?_ ?_); kernel_rfl; kernel_rfl; intro _ _|(with_reducible refine Rg.plan_keep ?_ ?_); kernel_rfl; intro K hK|refine hK _ _ (Rg.Keep.refl _) ?_; clear hK|refine hK _ _ (Rg.Keep.of_below (by assumption)) ?_; clear hK|(with_reducible refine Rg.plan_skip ?_ ?_); kernel_rfl|(with_reducible refine Rg.plan_done ?_)|(with_reducible refine Rg.calm_normal ?_))
   go_ret
   exact ⟨_, _, _, congrArg (fun x => Ending.returned (Value.int .i64 x)) HW4.out, R6.out, H6.out, OD6.out, OS6.out, OT6.out, HDIS.out, M6.out⟩
 ·have hE := HE.out
  rw [if_pos he] at hE
  injection hE with hE1 hE2
  subst hE1 hE2
  go_wp2_with fail
  go_ret
  have h5 : row? (w4.setCell ⟨Bh, 8, none⟩ (.int .u64 (m : Nat))) Bh = some (hvA long k ver vd vs vt sp ph m nl) := by rw [row?_setCell_eq H4.out]; rfl
  have r5 : row? (w4.setCell ⟨Bh, 8, none⟩ (.int .u64 (m : Nat))) B = some (rd (.slice ao b.length cap) s4) := by rw [row?_setCell_ne _ _ _ _ (by simpa using fun h => hne h.symm)]; exact R4.out
  have n5 := (Mut.refl Bh w4).setCell 8 none (.int .u64 (m : Nat))
  exact ⟨_, _, _, rfl, r5, h5, n5.own OD4.out hBhs, n5.own OS4.out hBhs, n5.own OT4.out hBhs, HDIS.out, m4.trans (n5.right B)⟩
end Go.Proofs.Ytjlpppnpdgenfaa

end
section
namespace Hdr
open Go.Rw
theorem gAll_short {b : List UInt8} (h : (gByte b &&& 128 != 0) = false) : gAll b = ((gShortN b).1, ⟨false, 0, 0, (gShort b).2, [], [], gByte b &&& 32 != 0, gByte b &&& 4 != 0, (gShortN b).2, gNl b⟩, b.length - (gShortN b).1.1) := by
 unfold gAll; rw [if_neg (by rw [h]; decide)]
theorem gAll_long {b : List UInt8} (h : (gByte b &&& 128 != 0) = true) : gAll b = ((lEnd b (gKind b) (gNl b) (gLong b)).1, ⟨true, gKind b, (aVer b (gKind b) (gLong b)).2, (aDst b (gKind b) (gLong b)).2, (aSrc b (gKind b) (gLong b)).2, (aTok b (gKind b) (gLong b)).2, false, false, (lNum b (gKind b) (gNl b) (gLong b)).2, gNl b⟩, (lEnd b (gKind b) (gNl b) (gLong b)).2) := by
 unfold gAll; rw [if_pos h]
theorem get_of {b : List UInt8} {s : Nat × Int} {h : Hd} {r : Nat} (e : gAll b = (s, h, r)) : get b = if s.2 ≠ 0 then (hd0, 0, 0, s.2) else (h, s.1, r, 0) := by
 unfold get; rw [e]
theorem and3_lt (f : UInt8) : n8 (f &&& 3) < 4 := by
 unfold n8
 rw [UInt8.toNat_and]
 exact Nat.lt_of_le_of_lt (Nat.and_le_right) (by decide)
end Hdr
namespace Go.Proofs.Ytjlpppnpdgenfaa
open Go.RowKit Go.Rw Hdr
attribute [local go_sem ↓] bdR bdH hvA_0 hvA_1 hvA_2 hvA_3 hvA_4 hvA_5 hvA_6 hvA_7 hvA_8 hvA_9
attribute [local go_sem] buildR buildH buildH0
attribute [local go_sem ↓] ldH stH alH shift_shl8 shift_shr8 shift_shl64 shift_shr64
attribute [local go_sem] rldH rstH ralH setRow_alloc_at setRow_alloc_past setRow_drew
theorem J_of {J : Act → World → Prop} {F : Nat × Value → (Nat → Value) → Array Value} {R : Nat × Value → World → Prop} (h : ∀ a w, J a w ↔ ∃ x z, a = ⟨F x z, []⟩ ∧ R x w) {t : Array Value} {w : World} (x : Nat × Value) (ht : t = F x (fun i => t.getD i undef)) (hr : R x w) : J ⟨t, []⟩ w :=
 (h _ _).2 ⟨x, fun i => t.getD i undef, by rw [← ht], hr⟩
def GetPost (w : World) (q : Hd × Nat × Nat × Int) (e : Ending) (w' : World) : Prop :=
 ∃ vd vs vt, e = .returned (.tuple #[.agg (hvA q.1.long q.1.kind q.1.ver vd vs vt q.1.spin q.1.phase q.1.num q.1.nl), .int .i64 (q.2.1 : Nat), .int .i64 (q.2.2.1 : Nat), .int .i64 q.2.2.2]) ∧
  w'.ownsRow w.heap.size 5 1 vd q.1.dst.length (q.1.dst.map bv) ∧ w'.ownsRow w.heap.size 5 1 vs q.1.src.length (q.1.src.map bv) ∧ w'.ownsRow w.heap.size 5 1 vt q.1.tok.length (q.1.tok.map bv) ∧
  (∀ i j, vd.ownBlock = some i → vt.ownBlock = some j → i ≠ j) ∧ Below w.heap.size w w'
set_option maxRecDepth 100000 in
set_option maxHeartbeats 4000000 in
theorem get_long_any (b : List UInt8) (hb : b.length ≤ 1000000) (vb : Value) (w : World) (hsb : Sl w vb b) (hl : (gByte b &&& 128 != 0) = true) :
  Calls Try.prog 38 #[vb] w (GetPost w (get b)) := by
 have hs0 := hsb
 obtain ⟨ao, cap, rfl, hc, hnn, hp⟩ := hsb
 clear hp hnn
 have hall := get_of (gAll_long hl)
 have hk : gKind b = (n8 (gByte b) / 16 % 4 : Nat) := rfl
 have hv256 : (rnum b 1 (0, 0)).2 < 256 := rnum_lt b 1 (0, 0)
 have hle1 : (rnum b 1 (0, 0)).1.1 ≤ b.length := rnum_le b 1 (0, 0) (Nat.zero_le _)
 have hP1 : rnum b 1 (0, 0) = ((rnum b 1 (0, 0)).1, n8 (gByte b)) := by unfold gByte; rw [n8_ofNat _ hv256]
 have hP2 : rfail (gByte b &&& 64 == 0) 5 (rnum b 1 (0, 0)).1 = gFirst b := rfl
 have hP3 : rfail (gByte b &&& 12 != 0) 5 (gFirst b) = gLong b := rfl
 have hle2 : (gFirst b).1 ≤ b.length := by unfold gFirst; rw [rfail_at]; exact hle1
 have hnl : gNl b = n8 (gByte b &&& 3) + 1 := rfl
 have hq3 := and3_lt (gByte b)
 generalize get b = qq at hall ⊢
 generalize gLong b = s3 at hall hP3
 generalize gFirst b = s2 at hP2 hP3 hle2
 generalize gNl b = nl at hall hnl
 generalize gKind b = k at hall hk
 generalize (rnum b 1 (0, 0)).1 = s1 at hP1 hP2 hle1
 generalize gByte b = f at hl hk hP1 hP2 hP3 hnl hq3
 have hnl4 : nl ≤ 4 := by omega
 have HALL := Lib.hid hall
 have P1 := Lib.hid hP1
 have P2 := Lib.hid hP2
 have P3 := Lib.hid hP3
 have HK := Lib.hid hk
 clear hall hP1 hP2 hP3 hk hv256 hle1
 have hf256 : ((n8 f : Nat) : Int) % 256 = (n8 f : Nat) := by have := n8_lt f; omega
 have q128 : (f &&& 128 != 0) = true := hl
 have q3 : ((n8 (f &&& 3) : Nat) : Int) + 1 = (nl : Int) := by omega
 have q3a : wrap64 ((n8 (f &&& 3) : Nat) : Int) = (nl : Int) - 1 := by unfold wrap64; omega
 have q3b : wrap64 (nl : Int) = (nl : Int) := by unfold wrap64; omega
 clear hl hnl hq3
 have HBLl := hb
 generalize hLL : b.length = L at hc hs0 ⊢
 have HL := Lib.hid hLL
 have HS0 := Lib.hid hs0
 have HC := Lib.hid hc
 clear hs0 hLL hc hb
 obtain ⟨J, hJ⟩ : ∃ J : Act → World → Prop, ∀ a w', J a w' ↔ (∃ (x : Nat × Value) (z : Nat → Value), a = ⟨(fun (x : Nat × Value) (z : Nat → Value) => #[z 0, z 1, .pointer (some ⟨w.heap.size, 0, none⟩), z 3, z 4, z 5, .pointer (some ⟨w.heap.size + 1, 0, none⟩), .int .u8 (n8 f : Nat), .pointer (some ⟨x.1, 0, none⟩), z 9, z 10, z 11, z 12, z 13, z 14, z 15, z 16, z 17, z 18, z 19, z 20, z 21, z 22, z 23, z 24, z 25, z 26, z 27, z 28, z 29, z 30, z 31, z 32, z 33, z 34, z 35, z 36, z 37, z 38, z 39, z 40, z 41, z 42, z 43, z 44, z 45, z 46, z 47, z 48, z 49, z 50, z 51, z 52, z 53, z 54, z 55, z 56, z 57, z 58, z 59, z 60, z 61, z 62, z 63, z 64, z 65, z 66, z 67, z 68, z 69, z 70, z 71, z 72, z 73, z 74, z 75, z 76, z 77, z 78]) x z, []⟩ ∧ (fun (x : Nat × Value) w' => row? w' w.heap.size = some (hvA false 0 0 (.slice none 0 0) (.slice none 0 0) (.slice none 0 0) false false 0 0) ∧ row? w' (w.heap.size + 1) = some (rd (.slice ao L cap) s2) ∧ w.heap.size + 2 ≤ x.1 ∧ row? w' x.1 = some (hvA true 0 0 (.slice none 0 0) (.slice none 0 0) (.slice none 0 0) false false 0 nl) ∧ Below w.heap.size w w') x w') := ⟨_, fun _ _ => Iff.rfl⟩
 have HJ := Lib.hid hJ
 clear hJ
 go_enter Try.func38, Try.ntmps38
 go_wp2_with fail
 refine wp_scope_jumps 0 J (fun _ _ => 0) rfl ?first ?pass
 case first =>
  go_wp2_with fail
  have hW1 : Below w.heap.size w ((w.alloc (.cells (hvA false 0 0 (.slice none 0 0) (.slice none 0 0) (.slice none 0 0) false false 0 0) 30)).alloc (.cells #[.slice ao L cap, .int .i64 0, .int .i64 0] 92)) := bel2 _ _ _
  have hR1 : row? ((w.alloc (.cells (hvA false 0 0 (.slice none 0 0) (.slice none 0 0) (.slice none 0 0) false false 0 0) 30)).alloc (.cells #[.slice ao L cap, .int .i64 0, .int .i64 0] 92)) (w.heap.size + 1) = some (rd (.slice ao L cap) (0, 0)) := row?_alloc_at _ _ _ _ (by simp)
  have hR0 : row? ((w.alloc (.cells (hvA false 0 0 (.slice none 0 0) (.slice none 0 0) (.slice none 0 0) false false 0 0) 30)).alloc (.cells #[.slice ao L cap, .int .i64 0, .int .i64 0] 92)) w.heap.size = some (hvA false 0 0 (.slice none 0 0) (.slice none 0 0) (.slice none 0 0) false false 0 0) := by rw [row?_alloc_past _ _ _ (by simp)]; exact row?_alloc_at _ _ _ _ rfl
  have hZ1 : (((w.alloc (.cells (hvA false 0 0 (.slice none 0 0) (.slice none 0 0) (.slice none 0 0) false false 0 0) 30)).alloc (.cells #[.slice ao L cap, .int .i64 0, .int .i64 0] 92))).heap.size = w.heap.size + 2 := by simp
  generalize ((w.alloc (.cells (hvA false 0 0 (.slice none 0 0) (.slice none 0 0) (.slice none 0 0) false false 0 0) 30)).alloc (.cells #[.slice ao L cap, .int .i64 0, .int .i64 0] 92)) = W1 at hW1 hR1 hR0 hZ1 ⊢
  refine (rnumber_any b w W1 (w.heap.size + 1) (.slice ao L cap) (0, 0) 1 HBLl (by decide) (Nat.zero_le _) HS0.out hW1 (by omega) hR1).mono ?_
  rintro e W2 ⟨rfl, m2, r2⟩
  rw [P1.out] at r2
  rw [P1.out]
  have hR0b := m2.row hR0 (by omega)
  have hW2 : Below w.heap.size w W2 := hW1.trans (m2.below (by omega) (by omega))
  have hZ2 := m2.size
  clear m2 hW1 hR1 hR0
  have H2 := Lib.hid r2
  have H0 := Lib.hid hR0b
  clear r2 hR0b
  go_wp2_with fail
  refine (fail_any W2 (w.heap.size + 1) (.slice ao L cap) s1 _ 5 H2.out).mono ?_
  rintro e W3 ⟨rfl, m3, r3⟩
  rw [P2.out] at r3
  have hR0c := m3.row H0.out (by omega)
  have hW3 : Below w.heap.size w W3 := hW2.trans (m3.below (by omega) (by omega))
  have hZ3 := m3.size
  have H3 := Lib.hid r3
  have H0c := Lib.hid hR0c
  clear m3 r3 hR0c H2 H0 hW2
  go_wp2_with fail
  have hW4 : Below w.heap.size w (W3.alloc (.cells (hvA true 0 0 (.slice none 0 0) (.slice none 0 0) (.slice none 0 0) false false 0 nl) 30)) := hW3.alloc (by omega) _
  have hA4 : row? (W3.alloc (.cells (hvA true 0 0 (.slice none 0 0) (.slice none 0 0) (.slice none 0 0) false false 0 nl) 30)) W3.heap.size = some (hvA true 0 0 (.slice none 0 0) (.slice none 0 0) (.slice none 0 0) false false 0 nl) := row?_alloc_at _ _ _ _ rfl
  have hR4 : row? (W3.alloc (.cells (hvA true 0 0 (.slice none 0 0) (.slice none 0 0) (.slice none 0 0) false false 0 nl) 30)) (w.heap.size + 1) = some (rd (.slice ao L cap) s2) := by rw [row?_alloc_past _ _ _ (by omega)]; exact H3.out
  have h04 : row? (W3.alloc (.cells (hvA true 0 0 (.slice none 0 0) (.slice none 0 0) (.slice none 0 0) false false 0 nl) 30)) w.heap.size = some (hvA false 0 0 (.slice none 0 0) (.slice none 0 0) (.slice none 0 0) false false 0 0) := by rw [row?_alloc_past _ _ _ (by omega)]; exact H0c.out
  have hZ4 : (W3.alloc (.cells (hvA true 0 0 (.slice none 0 0) (.slice none 0 0) (.slice none 0 0) false false 0 nl) 30)).heap.size = W3.heap.size + 1 := by simp
  generalize (W3.alloc (.cells (hvA true 0 0 (.slice none 0 0) (.slice none 0 0) (.slice none 0 0) false false 0 nl) 30)) = W4 at hW4 hA4 hR4 h04 hZ4 ⊢
  have hBh : w.heap.size + 2 ≤ W3.heap.size := by omega
  generalize W3.heap.size = Bh at hA4 hZ4 hBh ⊢
  clear H3 H0c hW3 hZ3 hZ1 hZ2
  have A4 := Lib.hid hA4
  have R4 := Lib.hid hR4
  have O4 := Lib.hid h04
  have c0 : W4.cell? ⟨Bh, 0, none⟩ = some (.bool true) := row?_cell hA4 0
  clear hA4 hR4 h04
  go_wp2_with fail
  refine wp_goto ?_
  show 0 = 0 ∧ J _ _
  exact ⟨rfl, J_of HJ.out (Bh, undef) (by kernel_rfl) ⟨O4.out, R4.out, hBh, A4.out, hW4⟩⟩
 case pass =>
  intro a wp hj
  obtain ⟨⟨Bh, vx⟩, z, rfl, r0, r1, hBh, r2, hbw⟩ := (HJ.out _ _).1 hj
  simp only [] at r0 r1 hBh r2 hbw ⊢
  clear hj HJ P1 P2 q3 q3a q3b q128 hf256
  have hlo := longs_any b w wp (w.heap.size + 1) Bh (.slice ao L cap) s2 f true 0 0 false false 0 nl hnl4 HBLl hle2 HS0.out hbw (by omega) (by omega) (by omega) r1 r2 k s3 HK.out P3.out
  have hall := HALL.out
  obtain ⟨q5, hq5⟩ : ∃ q, lEnd b k nl s3 = q := ⟨_, rfl⟩
  rw [hq5] at hlo hall
  generalize (aVer b k s3).2 = ver at hlo hall
  generalize (aDst b k s3).2 = d at hlo hall
  generalize (aSrc b k s3).2 = src at hlo hall
  generalize (aTok b k s3).2 = tok at hlo hall
  generalize (lNum b k nl s3).2 = num at hlo hall
  obtain ⟨s5, rest⟩ := q5
  simp only [] at hlo hall
  have HLO := Lib.hid hlo
  have HALL' := Lib.hid hall
  have R0 := Lib.hid r0
  have hwps := row?_lt r2
  clear hlo hall hq5 r1 r2 r0 HALL P3 HK
  go_wp2_with fail
  refine HLO.out.mono ?_
  rintro e wq ⟨vd, vs, vt, rfl, r1, r2, od, os, ot, hdis, m⟩
  have r0 := m.row R0.out (by omega) (by omega)
  have hb' : Below w.heap.size w wq := hbw.trans (m.below (by omega) (by omega) hbw.size)
  obtain ⟨av, cv, rfl, -, -, -⟩ := id (Own.sl od)
  obtain ⟨as_, cs, rfl, -, -, -⟩ := id (Own.sl os)
  obtain ⟨at_, ct, rfl, -, -, -⟩ := id (Own.sl ot)
  have hall := HALL'.out
  clear HLO R0 m hbw HALL'
  have c12 : wq.cell? ⟨w.heap.size + 1, 2, none⟩ = some (.int .i64 s5.2) := row?_cell r1 2
  have c11 : wq.cell? ⟨w.heap.size + 1, 1, none⟩ = some (.int .i64 (s5.1 : Nat)) := row?_cell r1 1
  have R0 := Lib.hid r0
  have R1 := Lib.hid r1
  have R2 := Lib.hid r2
  have OD := Lib.hid od
  have OS := Lib.hid os
  have OT := Lib.hid ot
  have HD := Lib.hid hdis
  have HB' := Lib.hid hb'
  have HALL := Lib.hid hall
  clear r0 r1 od os ot hdis hb' hall
  by_cases he : s5.2 = 0
  ·rw [he] at c12
   have hall := HALL.out
   rw [if_neg (by simpa using he)] at hall
   have HQ := Lib.hid hall
   clear hall HALL he c11
   go_wp2_with fail
   refine wp_label ?_
   go_wp2_with fail
   have r1s : row? (wq.setRow w.heap.size (hvA true k ver (.slice av d.length cv) (.slice as_ src.length cs) (.slice at_ tok.length ct) false false num nl)) (w.heap.size + 1) = some (rd (.slice ao L cap) s5) := by rw [row?_setRow_ne _ _ _ _ (by omega)]; exact R1.out
   have c13 : (wq.setRow w.heap.size (hvA true k ver (.slice av d.length cv) (.slice as_ src.length cs) (.slice at_ tok.length ct) false false num nl)).cell? ⟨w.heap.size + 1, 1, none⟩ = some (.int .i64 (s5.1 : Nat)) := row?_cell r1s 1
   have c14 : wq.cell? ⟨w.heap.size + 1, 1, none⟩ = some (.int .i64 (s5.1 : Nat)) := row?_cell R1.out 1
   clear r1s
   have r0 := R0.out
   go_region
   all_goals (go_wp2_with fail)
   simp only [Exit.jump]
   refine bodyPost_ret (results_row4 AgH rfl _ _ w.heap.size (hvA true k ver (.slice av d.length cv) (.slice as_ src.length cs) (.slice at_ tok.length ct) false false num nl) rfl ?_ (hvA_size ..)) rfl ?_
   ·rw [row?_drew]; exact row?_setRow_eq R0.out
   ·rw [HQ.out]
    have mm : Mut w.heap.size wq ((wq.setRow w.heap.size (hvA true k ver (.slice av d.length cv) (.slice as_ src.length cs) (.slice at_ tok.length ct) false false num nl)).drew) := ((Mut.refl _ _).setRow _).drew
    have hbs := HB'.out.size
    exact ⟨_, _, _, rfl, own_lower (mm.own OD.out (by omega)) (by omega), own_lower (mm.own OS.out (by omega)) (by omega), own_lower (mm.own OT.out (by omega)) (by omega), HD.out, HB'.out.trans (mm.below (Nat.le_refl _) hbs)⟩
  ·have he' : (s5.2 != 0) = true := by simpa using he
   have hall := HALL.out
   rw [if_pos he] at hall
   have HQ := Lib.hid hall
   clear hall HALL
   go_wp2_with fail
   refine wp_label ?_
   go_wp2_with fail
   have r1s : row? (wq.setRow w.heap.size (hvA false 0 0 (.slice none 0 0) (.slice none 0 0) (.slice none 0 0) false false 0 0)) (w.heap.size + 1) = some (rd (.slice ao L cap) s5) := by rw [row?_setRow_ne _ _ _ _ (by omega)]; exact R1.out
   have c13 : (wq.setRow w.heap.size (hvA false 0 0 (.slice none 0 0) (.slice none 0 0) (.slice none 0 0) false false 0 0)).cell? ⟨w.heap.size + 1, 2, none⟩ = some (.int .i64 s5.2) := row?_cell r1s 2
   clear r1s
   have r0 := R0.out
   go_region
   all_goals (go_wp2_with fail)
   simp only [Exit.jump]
   refine bodyPost_ret (results_row4 AgH rfl _ _ w.heap.size (hvA false 0 0 (.slice none 0 0) (.slice none 0 0) (.slice none 0 0) false false 0 0) rfl ?_ (hvA_size ..)) rfl ?_
   ·rw [row?_drew]; exact row?_setRow_eq R0.out
   ·rw [HQ.out]
    have mm : Mut w.heap.size wq ((wq.setRow w.heap.size (hvA false 0 0 (.slice none 0 0) (.slice none 0 0) (.slice none 0 0) false false 0 0)).drew) := ((Mut.refl _ _).setRow _).drew
    have hbs := HB'.out.size
    exact ⟨_, _, _, rfl, World.ownsRow_nil _ _ _ _, World.ownsRow_nil _ _ _ _, World.ownsRow_nil _ _ _ _, fun i j hi => by simp [Value.ownBlock] at hi, HB'.out.trans (mm.below (Nat.le_refl _) hbs)⟩
end Go.Proofs.Ytjlpppnpdgenfaa

end
