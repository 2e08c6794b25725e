/- HdrM; HdrW3. -/
import Derived.Test.YtipniobgijdlkaaMgs1
import Derived.Test.YtipniobgijdlkaaMgs2
import Derived.Test.YtipniobgijdlkaaMgsLibW
import Derived.Test.YtipniobgijdlkaaMgsLibM
import Derived.RegionTactic
import Derived.BigRegion
section
/- Headers' numbers, in plain words: how a number is cut, and found again; how bytes tell a number. No condition. -/
namespace Hdr
open Go.Rw
/-- How many bytes of a number must be told. -/
def cutD (d : Nat) : Nat := if d ≤ 128 then 1 else if d ≤ 32768 then 2 else if d ≤ 8388608 then 3 else 4
def cut (num acked : Nat) (any : Bool) : Nat :=
  if any then (if num < acked then 1 else cutD (num - acked)) else cutD (if num + 1 < 18446744073709551616 then num + 1 else num)
theorem cutD_range (d : Nat) : 1 ≤ cutD d ∧ cutD d ≤ 4 := by
  unfold cutD
  repeat' split
  all_goals omega
theorem cut_range (num acked : Nat) (any : Bool) : 1 ≤ cut num acked any ∧ cut num acked any ≤ 4 := by
  unfold cut
  repeat' split
  all_goals first | omega | exact cutD_range _
/-- The number that a part of it tells, the part's bytes standing for W. -/
def fullW (c W next : Nat) : Nat :=
  let o := next / W * W + c % W
  if o + W / 2 ≤ next ∧ o < 4611686018427387904 - W then o + W else if next + W / 2 < o ∧ W ≤ o then o - W else o
def wide (n : Int) : Nat := if n = 1 then 256 else if n = 2 then 65536 else if n = 3 then 16777216 else 4294967296
def full (c : Nat) (n : Int) (largest : Nat) (any : Bool) : Nat :=
  if n < 1 ∨ 4 < n ∨ 4611686018427387903 < largest then 0 else fullW c (wide n) (if any then largest + 1 else 0)
theorem fullW_back {c W next num : Nat} (hW : W = 256 ∨ W = 65536 ∨ W = 16777216 ∨ W = 4294967296) (h1 : next ≤ num) (h2 : num < next + W / 2) (h3 : num < 4611686018427387904) (h4 : c % W = num % W) : fullW c W next = num := by
  unfold fullW
  rw [h4]
  rcases hW with rfl | rfl | rfl | rfl
  all_goals
    simp only []
    repeat' split
    all_goals omega
theorem wide_cut (d : Nat) : wide (cutD d : Nat) = 256 ∨ wide (cutD d : Nat) = 65536 ∨ wide (cutD d : Nat) = 16777216 ∨ wide (cutD d : Nat) = 4294967296 := by
  unfold cutD
  repeat' split
  all_goals simp [wide]
theorem wide_big (d : Nat) (h : d ≤ 1073741824) : d ≤ wide (cutD d : Nat) / 2 := by
  unfold cutD
  repeat' split
  all_goals simp [wide]; try omega
theorem full_back {c num acked largest : Nat} (hd : num ≤ acked + 1073741824) (ha : acked ≤ largest) (hl : largest < num) (hn : num < 4611686018427387904) (hc : c % wide (cut num acked true : Nat) = num % wide (cut num acked true : Nat)) :
    full c (cut num acked true : Nat) largest true = num := by
  have e : cut num acked true = cutD (num - acked) := by unfold cut; rw [if_pos rfl, if_neg (by omega)]
  rw [e] at hc ⊢
  have hr := cutD_range (num - acked)
  have hw := wide_big (num - acked) (by omega)
  unfold full
  rw [if_neg (by omega), if_pos rfl]
  exact fullW_back (wide_cut _) (by omega) (by omega) hn hc
theorem cut_least {num acked : Nat} (h : acked ≤ num) : cut num acked true = 1 ∨ (cut num acked true = 2 ∧ 256 < 2 * (num - acked)) ∨ (cut num acked true = 3 ∧ 65536 < 2 * (num - acked)) ∨ (cut num acked true = 4 ∧ 16777216 < 2 * (num - acked)) := by
  unfold cut
  rw [if_pos rfl, if_neg (by omega)]
  unfold cutD
  repeat' split
  all_goals omega
/-- A number's lowest bytes, the highest ahead. -/
def be (n many : Nat) : List UInt8 := (List.range many).map fun k => UInt8.ofNat (n / 256 ^ (many - 1 - k))
theorem be_length (n many : Nat) : (be n many).length = many := by simp [be]
/-- The number that bytes tell. -/
def num (b : List UInt8) : Nat := b.foldl (fun n c => n * 256 + n8 c) 0
end Hdr
end
section
/- The walks of package header's short headers: whether one may be; its first byte's bits; a number's bytes. -/
namespace Go.Proofs.Ytipniobgijdlkaa
open Go.RowKit Go.Rw Hdr
/-- A header, as it is handed on. -/
def hvA (long : Bool) (kind : Int) (ver : Nat) (vd vs vt : Value) (spin phase : Bool) (num : Nat) (nl : Int) : Array Value :=
  #[.bool long, .int .i64 kind, .int .u32 (ver : Nat), vd, vs, vt, .bool spin, .bool phase, .int .u64 (num : Nat), .int .i64 nl]
@[go_sem] theorem hvA_size (l : Bool) (k : Int) (v : Nat) (vd vs vt : Value) (sp ph : Bool) (n : Nat) (nl : Int) : (hvA l k v vd vs vt sp ph n nl).size = 10 := by simp [hvA]
@[go_sem] theorem hvA_0 (l : Bool) (k : Int) (v : Nat) (vd vs vt : Value) (sp ph : Bool) (n : Nat) (nl : Int) : (hvA l k v vd vs vt sp ph n nl)[0]? = some (.bool l) := rfl
@[go_sem] theorem hvA_1 (l : Bool) (k : Int) (v : Nat) (vd vs vt : Value) (sp ph : Bool) (n : Nat) (nl : Int) : (hvA l k v vd vs vt sp ph n nl)[1]? = some (.int .i64 k) := rfl
@[go_sem] theorem hvA_2 (l : Bool) (k : Int) (v : Nat) (vd vs vt : Value) (sp ph : Bool) (n : Nat) (nl : Int) : (hvA l k v vd vs vt sp ph n nl)[2]? = some (.int .u32 (v : Nat)) := rfl
@[go_sem] theorem hvA_3 (l : Bool) (k : Int) (v : Nat) (vd vs vt : Value) (sp ph : Bool) (n : Nat) (nl : Int) : (hvA l k v vd vs vt sp ph n nl)[3]? = some (vd) := rfl
@[go_sem] theorem hvA_4 (l : Bool) (k : Int) (v : Nat) (vd vs vt : Value) (sp ph : Bool) (n : Nat) (nl : Int) : (hvA l k v vd vs vt sp ph n nl)[4]? = some (vs) := rfl
@[go_sem] theorem hvA_5 (l : Bool) (k : Int) (v : Nat) (vd vs vt : Value) (sp ph : Bool) (n : Nat) (nl : Int) : (hvA l k v vd vs vt sp ph n nl)[5]? = some (vt) := rfl
@[go_sem] theorem hvA_6 (l : Bool) (k : Int) (v : Nat) (vd vs vt : Value) (sp ph : Bool) (n : Nat) (nl : Int) : (hvA l k v vd vs vt sp ph n nl)[6]? = some (.bool sp) := rfl
@[go_sem] theorem hvA_7 (l : Bool) (k : Int) (v : Nat) (vd vs vt : Value) (sp ph : Bool) (n : Nat) (nl : Int) : (hvA l k v vd vs vt sp ph n nl)[7]? = some (.bool ph) := rfl
@[go_sem] theorem hvA_8 (l : Bool) (k : Int) (v : Nat) (vd vs vt : Value) (sp ph : Bool) (n : Nat) (nl : Int) : (hvA l k v vd vs vt sp ph n nl)[8]? = some (.int .u64 (n : Nat)) := rfl
@[go_sem] theorem hvA_9 (l : Bool) (k : Int) (v : Nat) (vd vs vt : Value) (sp ph : Bool) (n : Nat) (nl : Int) : (hvA l k v vd vs vt sp ph n nl)[9]? = some (.int .i64 nl) := rfl
@[go_sem] theorem hvA_set3 (l : Bool) (k : Int) (v : Nat) (vd vs vt : Value) (sp ph : Bool) (n : Nat) (nl : Int) (x : Value) : (hvA l k v vd vs vt sp ph n nl).setIfInBounds 3 (x) = hvA l k v x vs vt sp ph n nl := rfl
@[go_sem] theorem hvA_set4 (l : Bool) (k : Int) (v : Nat) (vd vs vt : Value) (sp ph : Bool) (n : Nat) (nl : Int) (x : Value) : (hvA l k v vd vs vt sp ph n nl).setIfInBounds 4 (x) = hvA l k v vd x vt sp ph n nl := rfl
@[go_sem] theorem hvA_set5 (l : Bool) (k : Int) (v : Nat) (vd vs vt : Value) (sp ph : Bool) (n : Nat) (nl : Int) (x : Value) : (hvA l k v vd vs vt sp ph n nl).setIfInBounds 5 (x) = hvA l k v vd vs x sp ph n nl := rfl
@[go_sem] theorem hvA_set6 (l : Bool) (k : Int) (v : Nat) (vd vs vt : Value) (sp ph : Bool) (n : Nat) (nl : Int) (x : Bool) : (hvA l k v vd vs vt sp ph n nl).setIfInBounds 6 (.bool x) = hvA l k v vd vs vt x ph n nl := rfl
@[go_sem] theorem hvA_set7 (l : Bool) (k : Int) (v : Nat) (vd vs vt : Value) (sp ph : Bool) (n : Nat) (nl : Int) (x : Bool) : (hvA l k v vd vs vt sp ph n nl).setIfInBounds 7 (.bool x) = hvA l k v vd vs vt sp x n nl := rfl
@[go_sem] theorem hvA_set8 (l : Bool) (k : Int) (v : Nat) (vd vs vt : Value) (sp ph : Bool) (n : Nat) (nl : Int) (x : Nat) : (hvA l k v vd vs vt sp ph n nl).setIfInBounds 8 (.int .u64 (x : Nat)) = hvA l k v vd vs vt sp ph x nl := rfl
@[go_sem] theorem hvA_set1 (l : Bool) (k : Int) (v : Nat) (vd vs vt : Value) (sp ph : Bool) (n : Nat) (nl : Int) (x : Int) : (hvA l k v vd vs vt sp ph n nl).setIfInBounds 1 (.int .i64 x) = hvA l x v vd vs vt sp ph n nl := rfl
@[go_sem] theorem hvA_set2 (l : Bool) (k : Int) (v : Nat) (vd vs vt : Value) (sp ph : Bool) (n : Nat) (nl : Int) (x : Nat) : (hvA l k v vd vs vt sp ph n nl).setIfInBounds 2 (.int .u32 (x : Nat)) = hvA l k x vd vs vt sp ph n nl := rfl
theorem hvA_all (l : Bool) (k : Int) (v : Nat) (a1 a2 a3 : Option Addr) (n1 n2 n3 c1 c2 c3 : Nat) (sp ph : Bool) (n : Nat) (nl : Int) : allOne (hvA l k v (.slice a1 n1 c1) (.slice a2 n2 c2) (.slice a3 n3 c3) sp ph n nl) = true := by simp [allOne, hvA, Value.oneCell']
attribute [go_sem] hvA_all
theorem AgH : Agg Try.prog 46 10 := ⟨⟨_, Try.underlying46, rfl⟩, by kernel_rfl⟩
theorem ldH (x : Value) : Instr.loadAt 46 x = loadAgg 46 x := rfl
theorem stH (x y : Value) : Instr.storeAt 46 x y = storeAgg 46 x y := rfl
theorem alH : Instr.alloc 46 true (.tuple #[]) = allocAgg 46 := rfl
theorem rldH (w : World) (b : Nat) (h : (row? w b).map (·.size) = some 10) : (loadAgg 46 (.pointer (some ⟨b, 0, none⟩))).run Try.prog w = .ok (.agg ((row? w b).getD #[])) w := load_rule AgH w b h
theorem rstH (w : World) (b : Nat) (c' : Array Value) (h : (row? w b).map (·.size) = some 10) (hn : c'.size = 10) (h1 : allOne c' = true) : (storeAgg 46 (.pointer (some ⟨b, 0, none⟩)) (.agg c')).run Try.prog w = .ok () (w.setRow b c') := store_rule AgH w b c' h hn h1
theorem ralH (w : World) : (allocAgg 46).run Try.prog w = .ok (.pointer (some ⟨w.heap.size, 0, none⟩)) (w.alloc (.cells (hvA false 0 0 (.slice none 0 0) (.slice none 0 0) (.slice none 0 0) false false 0 0) 46)) := alloc_rule (n := 10) (by kernel_rfl) w
def buildP (t : TypeId) (ps : Array (Nat × Value)) : Sem Value := Instr.build t ps
theorem bdH (ps : Array (Nat × Value)) : Instr.build 46 ps = buildP 46 ps := rfl
theorem buildH (l : Bool) (x : Int) (w : World) : (buildP 46 #[(0, .bool l), (9, .int .i64 x)]).run Try.prog w = .ok (.agg (hvA l 0 0 (.slice none 0 0) (.slice none 0 0) (.slice none 0 0) false false 0 x)) w := Go.run_build w _ _ _ (by kernel_rfl)
theorem buildH0 (w : World) : (buildP 46 #[]).run Try.prog w = .ok (.agg (hvA false 0 0 (.slice none 0 0) (.slice none 0 0) (.slice none 0 0) false false 0 0)) w := Go.run_build w _ _ _ (by kernel_rfl)
theorem buildHA (ao : Option Addr) (m cap : Nat) (n : Int) (x : Int) (sp : Bool) (w : World) : (buildP 46 #[(3, .slice ao m cap), (8, .int .u64 n), (9, .int .i64 x), (6, .bool sp)]).run Try.prog w = .ok (.agg #[.bool false, .int .i64 0, .int .u32 0, .slice ao m cap, .slice none 0 0, .slice none 0 0, .bool sp, .bool false, .int .u64 n, .int .i64 x]) w := Go.run_build w _ _ _ (by kernel_rfl)
attribute [local go_sem ↓] ldH stH alH shift_shl8 shift_shr8 shift_shl64 shift_shr64
attribute [local go_sem] rldH rstH ralH setRow_alloc_at setRow_alloc_past setRow_drew

set_option maxHeartbeats 1000000 in
theorem flag_any (is : Bool) (bit : UInt8) (w : World) :
    Calls Try.prog 45 #[.bool is, .int .u8 (n8 bit : Nat)] w fun e w' => e = .returned (.int .u8 (n8 (if is then bit else 0) : Nat)) ∧ w = w' := by
  cases is
  all_goals
    go_enter Try.func45, Try.ntmps45
    go_wp2_with fail
    go_ret
    exact ⟨rfl, rfl⟩

set_option maxRecDepth 20000 in
set_option maxHeartbeats 1000000 in
theorem may_short (ad as_ at_ : Option Addr) (cd cs ct : Nat) (spin phase : Bool) (num : Nat) (nl : Int) (h1 : 1 ≤ nl) (h4 : nl ≤ 4) (hn : (num : Int) ≤ 4611686018427387903) (w : World) :
    Calls Try.prog 44 #[.agg (hvA false 0 0 (.slice ad 8 cd) (.slice as_ 0 cs) (.slice at_ 0 ct) spin phase num nl)] w fun e w' => e = .returned (.bool true) ∧ Below w.heap.size w w' := by
  unfold hvA
  go_enter Try.func44, Try.ntmps44
  have g1 : ¬ nl < 1 := by omega
  have g2 : ¬ 4 < nl := by omega
  have g3 : ¬ (4611686018427387903 : Int) < (num : Nat) := by omega
  clear h1 h4 hn
  go_wp2_with fail
  go_ret
  exact ⟨rfl, (Below.refl _ _).alloc (Nat.le_refl _) _⟩
set_option maxRecDepth 20000 in
set_option maxHeartbeats 1000000 in
theorem may_zero (w : World) :
    Calls Try.prog 44 #[.agg (hvA false 0 0 (.slice none 0 0) (.slice none 0 0) (.slice none 0 0) false false 0 0)] w fun e w' => e = .returned (.bool false) ∧ Below w.heap.size w w' := by
  unfold hvA
  go_enter Try.func44, Try.ntmps44
  go_wp2_with fail
  go_ret
  exact ⟨rfl, (Below.refl _ _).alloc (Nat.le_refl _) _⟩

theorem be_take_succ (n many k : Nat) (h : k < many) : (be n many).take (k + 1) = (be n many).take k ++ [UInt8.ofNat (n / 256 ^ (many - 1 - k))] := by
  rw [List.take_add_one]
  congr 1
  rw [List.getElem?_eq_getElem (by rw [be_length]; exact h)]
  simp [be]
theorem shr_byte (n j : Nat) : ((n : Nat) : Int) / 2 ^ (8 * j) % 256 = (n8 (UInt8.ofNat (n / 256 ^ j)) : Nat) := by
  have e : n8 (UInt8.ofNat (n / 256 ^ j)) = n / 256 ^ j % 256 := by simp [n8]
  have e2 : (2 : Int) ^ (8 * j) = ((256 ^ j : Nat) : Int) := by rw [Int.pow_mul, Int.natCast_pow]; rfl
  rw [e, e2, Int.natCast_emod, Int.natCast_ediv]
  rfl

set_option maxHeartbeats 1000000 in
theorem number_any (l : List UInt8) (n many : Nat) (hl : l.length ≤ 1000000) (_hn : n < 18446744073709551616) (hm : many ≤ 8) (v : Value) (B : Nat) (w : World) (hB : B ≤ w.heap.size) (hown : w.ownsRow B 5 1 v l.length (l.map bv)) :
    Calls Try.prog 46 #[v, .int .u64 (n : Nat), .int .i64 (many : Nat)] w fun e w' => ∃ v', e = .returned v' ∧ w'.ownsRow B 5 1 v' (l ++ be n many).length ((l ++ be n many).map bv) ∧ Below B w w' := by
  obtain ⟨i0, hi, hz0, hz1, hz2⟩ := info_parts info8
  have hbl := be_length n many
  have hstep := be_take_succ n many
  generalize hBE : be n many = Z at hbl hstep ⊢
  have HST := Lib.hid hstep
  clear hstep
  go_enter Try.func46, Try.ntmps46
  have HO0 := Lib.hid hown
  clear hown hBE
  go_wp2_with fail
  go_loopw [0, 7, 9] (fun vb v7 v wr => ∃ k : Nat, k ≤ many ∧ v = .int .i64 k ∧ wr.ownsRow B 5 1 vb (l.length + k) ((l ++ Z.take k).map bv) ∧ Below B w wr) (fun _ _ v _ => many - (intOf v).toNat)
  case atStart => exact ⟨0, by omega, rfl, by simpa using HO0.out, Below.refl _ _⟩
  case round =>
    obtain ⟨k, hk, rfl, how, hb⟩ := hrel
    have HO := Lib.hid how
    clear how
    by_cases hlt : k < many
    · have hv := shr_byte n (many - 1 - k)
      have hst := HST.out k hlt
      generalize UInt8.ofNat (n / 256 ^ (many - 1 - k)) = c at hv hst
      have HV := Lib.hid hv
      have HS := Lib.hid hst
      clear hv hst
      have hsub : ((many : Int) - 1 - (k : Int)) = ((many - 1 - k : Nat) : Int) := by omega
      go_wp2_with (at_builtin; refine wpList_append_own _ rfl _ _ 25 rfl B 5 i0 (.int .u8 0) 1 1 Try.underlying25 hi hz0 hz1 hz2 rfl (by decide) _ (l.length + k) _ rfl (HO.out.alloc _) ⟨_, 0, none⟩ 1 1 [bv c] rfl rfl ?c1 ?c2 ?c3 ?c4 ?c5 ?_)
      case c1 =>
        intro j u hj
        match j, hj with
        | 0, hj => simp at hj; subst hj; rw [cell_new _ _ _ _ rfl]; exact congrArg (fun x => some (Value.int .u8 x)) HV.out
      case c2 => exact map_bv_one [c]
      case c3 => unfold maxLen; omega
      case c4 => omega
      case c5 => have := hb.size; simp; omega
      intro v' w2 hown2 hgrow2 _
      have hlt2 := Own.lt HO.out
      have kb : Below B w w2 := (hb.alloc (by have := hb.size; omega) _).grown hgrow2 (by have := hb.size; simp; omega) (fun q hq => (HO.out.lt q hq).1)
      have HO2 := Lib.hid hown2
      clear hown2 hgrow2 hlt2
      go_wp2_with fail
      go_roundw
      case rel =>
        refine ⟨k + 1, by omega, by go_num, ?_, kb⟩
        have := HO2.out
        rw [HS.out]
        simpa [Nat.add_assoc] using this
      case measure => simp [intOf]; omega
    · obtain rfl : k = many := by omega
      have hz : Z.take k = Z := List.take_of_length_le (by omega)
      go_wp2_with fail
      go_ret
      refine ⟨_, rfl, ?_, hb⟩
      have := HO.out
      rw [hz] at this
      rw [List.length_append, hbl]
      exact this
end Go.Proofs.Ytipniobgijdlkaa
end
