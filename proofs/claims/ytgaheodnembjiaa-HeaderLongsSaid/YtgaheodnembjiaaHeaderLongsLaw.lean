/- The statement HeaderLongs holds: a long header has its parts one behind the other, and tells how much is behind it; a hand's has no token. No condition. -/
import Derived.Test.YtgaheodnembjiaaHdrL1
import Derived.Test.YtgaheodnembjiaaHdrT1
import Derived.Test.YtgaheodnembjiaaHdrW12
import Derived.Test.YtgaheodnembjiaaHdrW14
import Derived.Test.YtgaheodnembjiaaLibZ
import Derived.Test.YtgaheodnembjiaaLawN
import Derived.Test.YtgaheodnembjiaaLawS
import Derived.Test.YtgaheodnembjiaaLibE
import Derived.Test.YtgaheodnembjiaaRows
import Derived.Test.YtgaheodnembjiaaLow
namespace Go.Proofs.Ytgaheodnembjiaa
open Go.RowKit Go.Rw Hdr
theorem lit0 (F : UInt8) (ver : Nat) (x : Int) (hF : ((n8 F : Nat) : Int) = x) : ([F] ++ be ver 4 ++ [8]).map bv = (#[.int .u8 x, .int .u8 ((ver : Int) / 16777216 % 256), .int .u8 ((ver : Int) / 65536 % 256), .int .u8 ((ver : Int) / 256 % 256), .int .u8 ((ver : Int) % 256), .int .u8 8] : Array Value).toList := by
  simp [be, List.range, List.range.loop, bv, n8_mod]
  exact hF
theorem lit1_sl (w : World) {n : Nat} (h : n < 256) (t : TypeId) : Sl (w.alloc (.cells #[.int .u8 (n : Nat)] t)) (.slice (some ⟨w.heap.size, 0, none⟩) 1 1) [UInt8.ofNat n] := by
  have := Rg.lit_sl w (UInt8.ofNat n) t
  rw [n8_ofNat _ h] at this
  exact this
theorem sl_row8 {w : World} {g : Nat} {l : List UInt8} (h : row? w g = some (bvs l)) (e : l.length = 8) : Sl w (.slice (some ⟨g, 0, none⟩) 8 8) l := by
  have := Sl.row h
  rw [e] at this
  exact this
theorem wq0 {R nl : Nat} (h : R + nl ≤ 1004) : wrap64 ((R : Int) + nl) = R + nl := by unfold wrap64; omega
theorem wq3 {R : Nat} (h : R < 1001) : wrap64 ((R : Int) + 3) = ((R + 3 : Nat) : Int) := by unfold wrap64; omega
theorem wq1 {R nl : Nat} (h : R + nl ≤ 1004) : wrap64 (64 + wrap64 (((R : Int) + nl).tdiv 256)) % 256 = ((64 + (R + nl) / 256 : Nat) : Int) := by
  rw [Int.tdiv_eq_ediv_of_nonneg (by omega)]
  unfold wrap64
  omega
theorem wq2 {R nl : Nat} : ((R : Int) + nl) % 256 = (((R + nl) % 256 : Nat) : Int) := by omega
theorem vin_lit {n : Nat} (h : n ≤ 1004) : bvs (vin n 2) = #[.int .u8 ((64 + n / 256 : Nat) : Int), .int .u8 ((n % 256 : Nat) : Int)] := by
  rw [vin_2]
  simp only [bvs, bv, List.map_cons, List.map_nil]
  rw [show (UInt8.ofNat (n / 256) ||| 64).toNat = 64 + n / 256 from (or64 ⟨n / 256, by omega⟩).trans (Nat.add_comm _ _), show (UInt8.ofNat n).toNat = n % 256 from by simp]
theorem lit2_sl (w : World) {n : Nat} (h : n ≤ 1004) (t : TypeId) : Sl (w.alloc (.cells #[.int .u8 ((64 + n / 256 : Nat) : Int), .int .u8 ((n % 256 : Nat) : Int)] t)) (.slice (some ⟨w.heap.size, 0, none⟩) 2 2) (vin n 2) := by
  have := Sl.row (w := w.alloc (.cells #[.int .u8 ((64 + n / 256 : Nat) : Int), .int .u8 ((n % 256 : Nat) : Int)] t)) (g := w.heap.size) (l := vin n 2) (by rw [vin_lit h]; exact row?_alloc_at _ _ _ _ rfl)
  rwa [vin_length] at this
/-- Powers of a byte, and what is left of a number under one. -/
def pm (k : Nat) : Nat := 256 ^ k - 1
def md (n k : Nat) : Nat := n % 256 ^ k
theorem wrap_pm (k : Nat) (h : k ≤ 4) : IntKind.u64.wrap (IntKind.u64.wrap ((2 : Int) ^ (8 * k)) - 1) = (pm k : Nat) := by
  match k, h with
  | 0, _ => rfl
  | 1, _ => rfl
  | 2, _ => rfl
  | 3, _ => rfl
  | 4, _ => rfl
theorem mask_val (n k : Nat) (h : k ≤ 4) (hn : n < 4294967296) : n64 (UInt64.ofInt (n : Nat) &&& UInt64.ofInt (IntKind.u64.wrap (IntKind.u64.wrap ((2 : Int) ^ (8 * k)) - 1))) = md n k := by
  rw [wrap_pm k h]
  have e : n64 (UInt64.ofInt (n : Nat) &&& UInt64.ofInt (pm k : Nat)) = n &&& (2 ^ (8 * k) - 1) := by
    show (UInt64.ofInt (n : Nat) &&& UInt64.ofInt (pm k : Nat)).toNat = _
    rw [UInt64.toNat_and, u64_ofInt_toNat, u64_ofInt_toNat]
    have h1 : (((n : Nat) : Int) % 18446744073709551616).toNat = n := by omega
    have h2 : (((pm k : Nat) : Int) % 18446744073709551616).toNat = 2 ^ (8 * k) - 1 := by
      match k, h with
      | 0, _ => rfl
      | 1, _ => rfl
      | 2, _ => rfl
      | 3, _ => rfl
      | 4, _ => rfl
    rw [h1, h2]
  rw [e, Nat.and_two_pow_sub_one_eq_mod, Nat.pow_mul]
  rfl
theorem buildLongs (ver : Nat) (a3 a4 a5 : Option Addr) (n3 n4 n5 c3 c4 c5 : Nat) (n : Nat) (x : Int) (w : World) : (buildP 26 #[(0, .bool true), (2, .int .u32 (ver : Nat)), (3, .slice a3 n3 c3), (4, .slice a4 n4 c4), (5, .slice a5 n5 c5), (8, .int .u64 (n : Nat)), (9, .int .i64 x)]).run Try.prog w = .ok (.agg (hvA true 0 ver (.slice a3 n3 c3) (.slice a4 n4 c4) (.slice a5 n5 c5) false false n x)) w := Go.run_build w _ _ _ (by kernel_rfl)
attribute [local go_sem ↓] ldH stH alH bdR bdH hvA_0 hvA_1 hvA_2 hvA_3 hvA_4 hvA_5 hvA_6 hvA_7 hvA_8 hvA_9
attribute [local go_sem] rldH rstH ralH setRow_alloc_at setRow_alloc_past setRow_drew buildLongs

set_option maxRecDepth 20000 in
set_option maxHeartbeats 4000000 in
theorem longsLaw_any (ver : Nat) (dl src tok : List UInt8) (num : Nat) (many rest : Int) (second : Bool) (vs vt : Value) (hd : dl.length = 8) (hver : ver < 4294967296) (hnum : num < 4294967296) (w : World) (hs : Sl w vs src) (ht : Sl w vt tok) :
    Calls Try.prog 8 #[.int .u32 (ver : Nat), .agg (bvs dl), vs, vt, .int .u32 (num : Nat), .int .i64 many, .int .i64 rest, .bool second] w fun e w' => e = .returned (.bool true) ∧ Below w.heap.size w w' := by
  obtain ⟨as_, cs, rfl, -, -, -⟩ := id hs
  obtain ⟨at_, ct, rfl, -, -, -⟩ := id ht
  obtain ⟨i0, hi, hz0, hz1, hz2⟩ := info_parts info8
  have HV := Lib.hid hver
  have HN := Lib.hid hnum
  have HS := Lib.hid hs
  have HT := Lib.hid ht
  have HD := Lib.hid hd
  clear hver hnum hs ht hd
  go_enter Try.func8, Try.ntmps8
  have hW1 : Below w.heap.size w (w.alloc (.cells (bvs dl) 45)) := (Below.refl _ _).alloc (Nat.le_refl _) _
  have r1 : row? (w.alloc (.cells (bvs dl) 45)) w.heap.size = some (bvs dl) := row?_alloc_at _ _ _ _ rfl
  have BW1 := Lib.hid hW1
  have R1 := Lib.hid r1
  clear hW1 r1
  by_cases hbig : 20 < src.length ∨ 60 < tok.length
  · have HB := Lib.hid hbig
    clear hbig
    by_cases h20 : (20 : Int) < (src.length : Nat)
    · go_wp2_with fail
      refine (awake_any _).mono ?_
      rintro e w5 ⟨rfl, b5⟩
      have hW5 : Below w.heap.size w w5 := BW1.out.trans (b5.mono BW1.out.size)
      go_wp2_with fail
      go_ret
      exact ⟨rfl, hW5⟩
    · have h60 : (60 : Int) < (tok.length : Nat) := by have := HB.out; omega
      go_wp2_with fail
      refine (awake_any _).mono ?_
      rintro e w5 ⟨rfl, b5⟩
      have hW5 : Below w.heap.size w w5 := BW1.out.trans (b5.mono BW1.out.size)
      go_wp2_with fail
      go_ret
      exact ⟨rfl, hW5⟩
  · have h20 : ¬ (20 : Int) < (src.length : Nat) := by omega
    have h60 : ¬ (60 : Int) < (tok.length : Nat) := by omega
    clear hbig
    go_wp2_with fail
    refine (low_any many 4 (by decide) (by decide) _).mono ?_
    rintro e w' ⟨rfl, rfl⟩
    go_wp2_with fail
    refine (low_any rest 1001 (by decide) (by decide) _).mono ?_
    rintro e w' ⟨rfl, rfl⟩
    have hlow := low_lt many 4 (by decide)
    have hlow2 := low_lt rest 1001 (by decide)
    obtain ⟨nl, hnl⟩ : ∃ nl, low many 4 + 1 = nl := ⟨_, rfl⟩
    have hwl : wrap64 ((1 : Int) + (low many 4 : Nat)) = (nl : Int) := by unfold wrap64; omega
    have h1 : 1 ≤ nl := by omega
    have h4 : nl ≤ 4 := by omega
    generalize low many 4 = LW at *
    generalize low rest 1001 = R at *
    have HSL := Lib.hid (And.intro (show src.length ≤ 20 by omega) (And.intro (show tok.length ≤ 60 by omega) (And.intro hlow2 (show R + nl ≤ 1004 by omega))))
    clear hnl hlow hlow2 h20 h60
    have sd := Sl.row R1.out
    rw [HD.out] at sd
    have SD := Lib.hid sd
    clear sd
    go_wp2_with (at_builtin; refine app_sl rfl _ _ 23 rfl w.heap.size 5 i0 Try.underlying23 hi hz0 hz1 hz2 (.slice none 0 0) [] rfl (World.ownsRow_nil _ _ _ _) _ dl rfl SD.out (by have := HD.out; simp; omega) BW1.out.size ?_)
    intro v2 w2 o2 g2
    have b2 : Below w.heap.size w w2 := BW1.out.grown g2 BW1.out.size (by intro k hk; cases hk)
    have s2 : Sl w2 v2 dl := Own.sl (l := dl) (by simpa using o2)
    have z2 := b2.size
    have hss2 : Sl w2 (.slice as_ src.length cs) src := HS.out.below b2
    have S2 := Lib.hid s2
    have SS2 := Lib.hid hss2
    have B2 := Lib.hid b2
    have r2 : row? w2 w.heap.size = some (bvs dl) := row_grown g2 R1.out (by intro h; cases h)
    have R2 := Lib.hid r2
    clear s2 o2 g2 hss2 b2 r2 R1 BW1 SD
    go_wp2_with (at_builtin; refine app_sl rfl _ _ 23 rfl w2.heap.size 5 i0 Try.underlying23 hi hz0 hz1 hz2 (.slice none 0 0) [] rfl (World.ownsRow_nil _ _ _ _) _ src rfl SS2.out (by have := HSL.out.1; simp; omega) (Nat.le_refl _) ?_)
    intro v3 w3 o3 g3
    have q3 : Below w2.heap.size w2 w3 := (Below.refl _ _).grown g3 (Nat.le_refl _) (by intro k hk; cases hk)
    have b3 : Below w.heap.size w w3 := B2.out.trans (q3.mono z2)
    have z3 := b3.size
    have s3 : Sl w3 v3 src := Own.sl (l := src) (by simpa using o3)
    have s2 : Sl w3 v2 dl := S2.out.below q3
    have hst3 : Sl w3 (.slice at_ tok.length ct) tok := HT.out.below b3
    have r3 : row? w3 w.heap.size = some (bvs dl) := row_grown g3 R2.out (by intro h; cases h)
    have S2' := Lib.hid s2
    have S3 := Lib.hid s3
    have ST3 := Lib.hid hst3
    have B3 := Lib.hid b3
    have R3 := Lib.hid r3
    clear s2 s3 hst3 b3 r3 o3 g3 q3 S2 SS2 B2 R2 z2
    go_wp2_with (at_builtin; refine app_sl rfl _ _ 23 rfl w3.heap.size 5 i0 Try.underlying23 hi hz0 hz1 hz2 (.slice none 0 0) [] rfl (World.ownsRow_nil _ _ _ _) _ tok rfl ST3.out (by have := HSL.out.2.1; simp; omega) (Nat.le_refl _) ?_)
    intro v4 w4 o4 g4
    have q4 : Below w3.heap.size w3 w4 := (Below.refl _ _).grown g4 (Nat.le_refl _) (by intro k hk; cases hk)
    have b4 : Below w.heap.size w w4 := B3.out.trans (q4.mono z3)
    have z4 := b4.size
    have s4 : Sl w4 v4 tok := Own.sl (l := tok) (by simpa using o4)
    have s3 : Sl w4 v3 src := S3.out.below q4
    have s2 : Sl w4 v2 dl := S2'.out.below q4
    have r4 : row? w4 w.heap.size = some (bvs dl) := row_grown g4 R3.out (by intro h; cases h)
    obtain ⟨a2, c2, rfl, -, -, -⟩ := id s2
    obtain ⟨a3, c3, rfl, -, -, -⟩ := id s3
    obtain ⟨a4, c4, rfl, -, -, -⟩ := id s4
    have X2 := Lib.hid s2
    have X3 := Lib.hid s3
    have X4 := Lib.hid s4
    have B4 := Lib.hid b4
    have R4 := Lib.hid r4
    clear s2 s3 s4 b4 r4 o4 g4 q4 S2' S3 ST3 B3 R3 z3
    have hwn : IntKind.u64.wrap ((num : Nat) : Int) = (num : Nat) := by have := HN.out; simp only [IntKind.wrap_u64]; omega
    have hw2 : wrap64 (191 + (nl : Int)) = 191 + nl := by unfold wrap64; omega
    have hw3 : (191 + (nl : Int)) % 256 = 191 + nl := by omega
    have hw4 : (191 + (nl : Int) + 32) % 256 = 191 + nl + 32 := by omega
    clear hwl
    cases second
    · have hF := (longF_facts (kind := 0) (nl := nl) (by decide) h1 h4).2.2.2.2.2
      have hl0 := lit0 (longF 0 nl) ver (191 + (nl : Int)) (by rw [hF]; simp; try omega)
      have hl0n : ([longF 0 nl] ++ be ver 4 ++ [8]).length = 6 := by simp [be_length]
      obtain ⟨L0, hL0⟩ : ∃ L0, [longF 0 nl] ++ be ver 4 ++ [8] = L0 := ⟨_, rfl⟩
      rw [hL0] at hl0 hl0n
      have ownA : ((w4.alloc (.cells (hvA true 0 ver (.slice a2 dl.length c2) (.slice a3 src.length c3) (.slice a4 tok.length c4) false false num nl) 26)).alloc (.cells #[.int .u8 (191 + (nl : Int)), .int .u8 ((ver : Int) / 16777216 % 256), .int .u8 ((ver : Int) / 65536 % 256), .int .u8 ((ver : Int) / 256 % 256), .int .u8 ((ver : Int) % 256), .int .u8 8] 5)).ownsRow (w4.heap.size + 1) 5 1 (.slice (some ⟨w4.heap.size + 1, 0, none⟩) 6 6) L0.length (L0.map bv) := by
        rw [hl0, hl0n]
        have := World.ownsRow_lit (base := w4.heap.size + 1) (size := 1) (w4.alloc (.cells (hvA true 0 ver (.slice a2 dl.length c2) (.slice a3 src.length c3) (.slice a4 tok.length c4) false false num nl) 26)) #[.int .u8 (191 + (nl : Int)), .int .u8 ((ver : Int) / 16777216 % 256), .int .u8 ((ver : Int) / 65536 % 256), .int .u8 ((ver : Int) / 256 % 256), .int .u8 ((ver : Int) % 256), .int .u8 8] 6 (by simp) (by decide) (by simp) (e := 5)
        rw [World.size_alloc] at this
        exact this
      have bA : Below w4.heap.size w4 ((w4.alloc (.cells (hvA true 0 ver (.slice a2 dl.length c2) (.slice a3 src.length c3) (.slice a4 tok.length c4) false false num nl) 26)).alloc (.cells #[.int .u8 (191 + (nl : Int)), .int .u8 ((ver : Int) / 16777216 % 256), .int .u8 ((ver : Int) / 65536 % 256), .int .u8 ((ver : Int) / 256 % 256), .int .u8 ((ver : Int) % 256), .int .u8 8] 5)) := bel2 _ _ _
      have rA : row? ((w4.alloc (.cells (hvA true 0 ver (.slice a2 dl.length c2) (.slice a3 src.length c3) (.slice a4 tok.length c4) false false num nl) 26)).alloc (.cells #[.int .u8 (191 + (nl : Int)), .int .u8 ((ver : Int) / 16777216 % 256), .int .u8 ((ver : Int) / 65536 % 256), .int .u8 ((ver : Int) / 256 % 256), .int .u8 ((ver : Int) % 256), .int .u8 8] 5)) w4.heap.size = some (hvA true 0 ver (.slice a2 dl.length c2) (.slice a3 src.length c3) (.slice a4 tok.length c4) false false num nl) := by rw [row?_alloc_past _ _ _ (by simp)]; exact row?_alloc_at _ _ _ _ rfl
      have qA : row? ((w4.alloc (.cells (hvA true 0 ver (.slice a2 dl.length c2) (.slice a3 src.length c3) (.slice a4 tok.length c4) false false num nl) 26)).alloc (.cells #[.int .u8 (191 + (nl : Int)), .int .u8 ((ver : Int) / 16777216 % 256), .int .u8 ((ver : Int) / 65536 % 256), .int .u8 ((ver : Int) / 256 % 256), .int .u8 ((ver : Int) % 256), .int .u8 8] 5)) w.heap.size = some (bvs dl) := Rg.row_below bA R4.out (row?_lt R4.out)
      have zA : ((w4.alloc (.cells (hvA true 0 ver (.slice a2 dl.length c2) (.slice a3 src.length c3) (.slice a4 tok.length c4) false false num nl) 26)).alloc (.cells #[.int .u8 (191 + (nl : Int)), .int .u8 ((ver : Int) / 16777216 % 256), .int .u8 ((ver : Int) / 65536 % 256), .int .u8 ((ver : Int) / 256 % 256), .int .u8 ((ver : Int) % 256), .int .u8 8] 5)).heap.size = w4.heap.size + 2 := by simp
      have OA := Lib.hid ownA
      have BA := Lib.hid bA
      have RA := Lib.hid rA
      have QA := Lib.hid qA
      have HL0 := Lib.hid hL0
      have HL0n := Lib.hid hl0n
      clear ownA bA rA qA hF hl0 hL0 hl0n
      have sdA := sl_row8 QA.out HD.out
      have SDA := Lib.hid sdA
      clear sdA
      go_wp2_with (at_builtin; refine Classical.byContradiction ?_)
      intro hh; apply hh; clear hh
      refine app_sl rfl _ _ 23 rfl (w4.heap.size + 1) 5 i0 Try.underlying23 hi hz0 hz1 hz2 (.slice (some ⟨w4.heap.size + 1, 0, none⟩) 6 6) L0 rfl OA.out _ dl rfl SDA.out (by have := HD.out; have := HL0n.out; omega) (by rw [zA]; omega) ?_
      intro v5 w5 o5 g5
      generalize ((w4.alloc (.cells (hvA true 0 ver (.slice a2 dl.length c2) (.slice a3 src.length c3) (.slice a4 tok.length c4) false false num nl) 26)).alloc (.cells #[.int .u8 (191 + (nl : Int)), .int .u8 ((ver : Int) / 16777216 % 256), .int .u8 ((ver : Int) / 65536 % 256), .int .u8 ((ver : Int) / 256 % 256), .int .u8 ((ver : Int) % 256), .int .u8 8] 5)) = WA at *
      have b5 : Below (w4.heap.size + 1) WA w5 := (Below.refl _ _).grown g5 (by omega) (fun k hk => (OA.out.lt k hk).1)
      have o5' : w5.ownsRow (w4.heap.size + 1) 5 1 v5 (L0 ++ dl).length ((L0 ++ dl).map bv) := by simpa using o5
      have O5 := Lib.hid o5'
      clear o5'
      have B5 := Lib.hid b5
      have z5 := b5.size
      have hsm : ((src.length : Nat) : Int) % 256 = (src.length : Nat) := by have := HSL.out.1; omega
      clear o5 g5 b5 OA SDA hw2 hw3 hw4 hwn
      go_wp2_with (at_builtin; refine Classical.byContradiction ?_)
      intro hh; apply hh; clear hh
      refine app_sl rfl _ _ 23 rfl (w4.heap.size + 1) 5 i0 Try.underlying23 hi hz0 hz1 hz2 v5 (L0 ++ dl) rfl (O5.out.alloc _) _ [UInt8.ofNat src.length] rfl (lit1_sl _ (by have := HSL.out.1; omega) _) (by have := HD.out; have := HL0n.out; simp; omega) (by simp; omega) ?_
      intro v6 w6 o6 g6
      have b6 : Below (w4.heap.size + 1) WA w6 := (B5.out.alloc (by omega) _).grown g6 (by simp; omega) (fun k hk => (O5.out.lt k hk).1)
      have o6' : w6.ownsRow (w4.heap.size + 1) 5 1 v6 (L0 ++ dl ++ [UInt8.ofNat src.length]).length ((L0 ++ dl ++ [UInt8.ofNat src.length]).map bv) := by simpa using o6
      have O6 := Lib.hid o6'
      clear o6'
      have B6 := Lib.hid b6
      have z6 := b6.size
      have ssrc := HS.out.below (B4.out.trans ((BA.out.trans (b6.mono (Nat.le_succ _))).mono z4))
      have SSRC := Lib.hid ssrc
      clear o6 g6 b6 B5 O5 z5 ssrc hsm
      go_wp2_with (at_builtin; refine Classical.byContradiction ?_)
      intro hh; apply hh; clear hh
      refine app_sl rfl _ _ 23 rfl (w4.heap.size + 1) 5 i0 Try.underlying23 hi hz0 hz1 hz2 v6 (L0 ++ dl ++ [UInt8.ofNat src.length]) rfl O6.out _ src rfl SSRC.out (by have := HD.out; have := HL0n.out; have := HSL.out.1; simp; omega) (by omega) ?_
      intro v7 w7 o7 g7
      have b7 : Below (w4.heap.size + 1) WA w7 := B6.out.grown g7 (by omega) (fun k hk => (O6.out.lt k hk).1)
      obtain ⟨L7, hL7⟩ : ∃ L7, L0 ++ dl ++ [UInt8.ofNat src.length] ++ src = L7 := ⟨_, rfl⟩
      have hn7 : L7.length ≤ 100 := by rw [← hL7]; have := HD.out; have := HL0n.out; have := HSL.out.1; simp; omega
      have o7' : w7.ownsRow (w4.heap.size + 1) 5 1 v7 L7.length (L7.map bv) := by rw [← hL7]; simpa using o7
      have O7 := Lib.hid o7'
      have B7 := Lib.hid b7
      have HL7 := Lib.hid hL7
      have HN7 := Lib.hid hn7
      have z7 := b7.size
      clear o7 o7' g7 b7 hL7 hn7 O6 B6 SSRC z6
      have htm : ((tok.length : Nat) : Int) % 256 = (tok.length : Nat) := by have := HSL.out.2.1; omega
      go_wp2_with (at_builtin; refine Classical.byContradiction ?_)
      intro hh; apply hh; clear hh
      refine app_sl rfl _ _ 23 rfl (w4.heap.size + 1) 5 i0 Try.underlying23 hi hz0 hz1 hz2 v7 L7 rfl (O7.out.alloc _) _ [UInt8.ofNat tok.length] rfl (lit1_sl _ (by have := HSL.out.2.1; omega) _) (by have := HN7.out; simp; omega) (by simp; omega) ?_
      intro v8 w8 o8 g8
      have b8 : Below (w4.heap.size + 1) WA w8 := (B7.out.alloc (by omega) _).grown g8 (by simp; omega) (fun k hk => (O7.out.lt k hk).1)
      have o8' : w8.ownsRow (w4.heap.size + 1) 5 1 v8 (L7 ++ [UInt8.ofNat tok.length]).length ((L7 ++ [UInt8.ofNat tok.length]).map bv) := by simpa using o8
      have O8 := Lib.hid o8'
      clear o8'
      have B8 := Lib.hid b8
      have z8 := b8.size
      have stok := HT.out.below (B4.out.trans ((BA.out.trans (b8.mono (Nat.le_succ _))).mono z4))
      have STOK := Lib.hid stok
      clear o8 g8 b8 B7 O7 z7 stok htm
      go_wp2_with (at_builtin; refine Classical.byContradiction ?_)
      intro hh; apply hh; clear hh
      refine app_sl rfl _ _ 23 rfl (w4.heap.size + 1) 5 i0 Try.underlying23 hi hz0 hz1 hz2 v8 (L7 ++ [UInt8.ofNat tok.length]) rfl O8.out _ tok rfl STOK.out (by have := HN7.out; have := HSL.out.2.1; simp; omega) (by omega) ?_
      intro v9 w9 o9 g9
      have b9 : Below (w4.heap.size + 1) WA w9 := B8.out.grown g9 (by omega) (fun k hk => (O8.out.lt k hk).1)
      obtain ⟨L9, hL9⟩ : ∃ L9, L7 ++ [UInt8.ofNat tok.length] ++ tok = L9 := ⟨_, rfl⟩
      have hn9 : L9.length ≤ 200 := by rw [← hL9]; have := HN7.out; have := HSL.out.2.1; simp; omega
      have o9' : w9.ownsRow (w4.heap.size + 1) 5 1 v9 L9.length (L9.map bv) := by rw [← hL9]; simpa using o9
      have hz : [longF 0 nl] ++ be ver 4 ++ [UInt8.ofNat dl.length] ++ dl ++ [UInt8.ofNat src.length] ++ src ++ longTok 0 tok = L9 := by
        rw [← hL9, ← HL7.out, ← HL0.out, HD.out, longTok, if_pos rfl, vlen, if_pos (by have := HSL.out.2.1; omega), vin_1]; simp
      have O9 := Lib.hid o9'
      have B9 := Lib.hid b9
      have HZ := Lib.hid hz
      have HN9 := Lib.hid hn9
      have z9 := b9.size
      clear o9 o9' g9 b9 hL9 hn9 hz O8 B8 STOK z8 HL7 HN7 HL0 HL0n
      have hq0 : wrap64 ((R : Int) + nl) = R + nl := wq0 HSL.out.2.2.2
      go_wp2_with (at_builtin; refine Classical.byContradiction ?_)
      intro hh; apply hh; clear hh
      have hRn : R + nl ≤ 1004 := HSL.out.2.2.2
      rw [wq1 hRn, wq2]
      refine app_sl rfl _ _ 23 rfl (w4.heap.size + 1) 5 i0 Try.underlying23 hi hz0 hz1 hz2 v9 L9 rfl (O9.out.alloc _) _ (vin (R + nl) 2) rfl (lit2_sl _ hRn _) (by have := HN9.out; simp [vin_length]; omega) (by simp; omega) ?_
      intro v10 w10 o10 g10
      have b10 : Below (w4.heap.size + 1) WA w10 := (B9.out.alloc (by omega) _).grown g10 (by simp; omega) (fun k hk => (O9.out.lt k hk).1)
      obtain ⟨L10, hL10⟩ : ∃ L10, L9 ++ vin (R + nl) 2 = L10 := ⟨_, rfl⟩
      have hn10 : L10.length ≤ 202 := by rw [← hL10]; have := HN9.out; simp [vin_length]; omega
      have o10' : w10.ownsRow (w4.heap.size + 1) 5 1 v10 L10.length (L10.map bv) := by rw [← hL10]; simpa using o10
      have O10 := Lib.hid o10'
      have B10 := Lib.hid b10
      have HL10 := Lib.hid hL10
      have HN10 := Lib.hid hn10
      have z10 := b10.size
      clear o10 o10' g10 b10 hL10 hn10 O9 B9 z9 HN9 hq0 hRn
      obtain ⟨Z, hZ⟩ : ∃ Z, be num nl = Z := ⟨_, rfl⟩
      have hbl := be_length num nl
      have hstep := be_take_succ num nl
      rw [hZ] at hbl hstep
      have HST := Lib.hid hstep
      have HZE := Lib.hid hZ
      clear hstep hZ
      go_wp2_with fail
      go_loopw [18, 19] (fun v18 v19 wr => ∃ k : Nat, k ≤ nl ∧ v19 = .int .i64 ((nl : Int) - 1 - k) ∧ wr.ownsRow (w4.heap.size + 1) 5 1 v18 (L10.length + k) ((L10 ++ Z.take k).map bv) ∧ Below (w4.heap.size + 1) WA wr) (fun _ v _ => (intOf v + 1).toNat)
      case atStart => exact ⟨0, by omega, by simp, by simpa using O10.out, B10.out⟩
      case round =>
        obtain ⟨k, hk, rfl, how, hb⟩ := hrel
        have HO := Lib.hid how
        have zr := hb.size
        have BR := Lib.hid hb
        clear how hb
        by_cases hlt : k < nl
        · have hv := shr_byte num (nl - 1 - k)
          have hst := HST.out k hlt
          have hge : (0 : Int) ≤ (nl : Int) - 1 - k := by omega
          have hsub : ((nl : Int) - 1 - (k : Int)) = ((nl - 1 - k : Nat) : Int) := by omega
          generalize UInt8.ofNat (num / 256 ^ (nl - 1 - k)) = c at hv hst
          have HVV := Lib.hid hv
          have HS' := Lib.hid hst
          clear hv hst
          go_wp2_with (at_builtin; refine Classical.byContradiction ?_)
          intro hh; apply hh; clear hh
          rw [HVV.out]
          refine app_sl rfl _ _ 23 rfl (w4.heap.size + 1) 5 i0 Try.underlying23 hi hz0 hz1 hz2 u18 (L10 ++ Z.take k) rfl (by have := HO.out.alloc (.cells #[.int .u8 (n8 c : Nat)] 5); simpa [List.length_take, hbl, Nat.min_eq_left hk] using this) _ [c] rfl (Rg.lit_sl _ _ _) (by have := HN10.out; simp; omega) (by simp; omega) ?_
          intro v' wn on gn
          have bn : Below (w4.heap.size + 1) WA wn := (BR.out.alloc (by omega) _).grown gn (by simp; omega) (fun q hq => (HO.out.lt q hq).1)
          have ON := Lib.hid on
          clear on gn
          go_wp2_with fail
          go_roundw
          case rel =>
            refine ⟨k + 1, by omega, by push_cast; exact congrArg (Value.int .i64) (by omega), ?_, bn⟩
            have := ON.out
            rw [HS'.out]
            simpa [List.length_take, hbl, Nat.min_eq_left hk, Nat.add_assoc] using this
          case measure => simp [intOf]; omega
        · obtain rfl : k = nl := by omega
          have hge : ¬ ((0 : Int) ≤ (k : Int) - 1 - k) := by omega
          have rH : row? wr w4.heap.size = some (hvA true 0 ver (.slice a2 dl.length c2) (.slice a3 src.length c3) (.slice a4 tok.length c4) false false num k) := Rg.row_below BR.out RA.out (by omega)
          have bR : Below w4.heap.size w4 wr := BA.out.trans (BR.out.mono (Nat.le_succ _))
          have hzt : Z.take k = Z := List.take_of_length_le (by omega)
          obtain ⟨ZB, hZB⟩ : ∃ ZB, longB 0 ver dl src tok num k R = ZB := ⟨_, rfl⟩
          have hZB2 : L10 ++ Z = ZB := by rw [← hZB, longB, HZ.out, HL10.out, HZE.out]
          have hZl : ZB.length = L10.length + k := by rw [← hZB2, List.length_append, hbl]
          have hm : mayN true 0 ver dl.length src.length (tok : List UInt8).length false false num k = true := by
            unfold mayN
            rw [if_neg (by have := HD.out; have := HN.out; omega), if_neg (by decide)]
            exact decide_eq_true ⟨.inl rfl, HSL.out.1, by have := HSL.out.2.1; simp; try omega, rfl, rfl⟩
          have sw : Sl wr u18 ZB := Own.sl (l := ZB) (by have := HO.out; rw [hzt, hZB2] at this; rw [hZl]; exact this)
          have hput := put_long 0 ver dl src tok (.slice a2 dl.length c2) (.slice a3 src.length c3) (.slice a4 tok.length c4) num k R hm HV.out (by have := HSL.out.2.2.2; omega) wr (X2.out.below bR) (X3.out.below bR) (X4.out.below bR)
          rw [hZB] at hput
          obtain ⟨aw_, cw, rfl, -, -, -⟩ := id sw
          have hget : get (longB 0 ver dl src tok num k R ++ List.replicate (R + 3) 0) = (⟨true, 0, ver, dl, src, tok, false, false, md num k, k⟩, (longB 0 ver dl src tok num k R).length, R, 0) := get_longB 0 ver dl src tok (List.replicate (R + 3) 0) num k R (.inl rfl) HV.out HD.out HSL.out.1 (by have := HSL.out.2.1; simp; try omega) h1 h4 (by have := HSL.out.2.2.2; omega) (by simp)
          rw [hZB] at hget
          have HGET := Lib.hid hget
          have HPUT := Lib.hid hput
          have SW := Lib.hid sw
          have HZL := Lib.hid hZl
          have BRR := Lib.hid bR
          have RH := Lib.hid rH
          clear hget hput sw hZl hm hzt hZB hZB2 HO bR HZ HL10 HZE HST hbl
          go_wp2_with fail
          refine HPUT.out.mono ?_
          rintro e w11 ⟨v11, rfl, o11, b11⟩
          have O11 := Lib.hid o11
          have B11 := Lib.hid b11
          have z11 := b11.size
          have SW11 := Lib.hid (SW.out.below b11)
          have rH11 := Rg.stable_row b11 RH.out
          have RH11 := Lib.hid rH11
          clear o11 b11 rH rH11 HPUT
          go_wp2_with fail
          refine (same_any ZB ZB (by have := HZL.out; have := HN10.out; omega) _ _ w11 (Own.sl O11.out) SW11.out).mono ?_
          rintro e w12 ⟨rfl, b12⟩
          rw [decide_eq_true rfl]
          have rH12 := Rg.stable_row b12 RH11.out
          have o12 : w12.ownsRow wr.heap.size 5 1 v11 ZB.length (ZB.map bv) := own_grown (r := none) O11.out ⟨b12.os, b12.tape, b12.output, b12.size, fun k hk _ => b12.block k hk⟩ (fun k hk he => by cases he)
          have b12' : Below w4.heap.size w4 w12 := BRR.out.trans ((B11.out.trans (b12.mono B11.out.size)).mono BRR.out.size)
          have O12 := Lib.hid o12
          have B12 := Lib.hid b12'
          have z12 := b12.size
          have c8 : w12.cell? ⟨w4.heap.size, 8, none⟩ = some (.int .u64 (num : Nat)) := row?_cell rH12 8
          have f8 := row?_frozen rH12 8
          have RH12 := Lib.hid rH12
          clear o12 b12 b12' rH12 O11 B11 SW11 RH11
          go_wp2_with fail
          refine Rg.wp_region_plan (Rg.row [(0, 3), (1, 0), (2, 3), (3, 3), (4, 3), (5, 3), (6, 3), (7, 3)] [8]) [8] (by kernel_rfl) (by kernel_rfl) ?_
          simp only [Rg.row, Rg.PT.map, List.map_cons, List.map_nil, List.getD_cons_zero, List.getD_cons_succ]
          go_wp2_with (first
            | (at_builtin; refine Classical.byContradiction ?_)
            | ((with_reducible refine Rg.plan_pure ?_ ?_ ?_); kernel_rfl; kernel_rfl; intro _ _)
            | ((with_reducible refine Rg.plan_take ?_ ?_ ?_); kernel_rfl; kernel_rfl; intro _ _)
            | ((with_reducible refine Rg.plan_keep ?_ ?_); kernel_rfl; intro K hK)
            | (refine hK _ _ (Rg.Keep.refl _) ?_; clear hK)
            | (refine hK _ _ (Rg.Keep.of_below (by assumption)) ?_; clear hK)
            | ((with_reducible refine Rg.plan_skip ?_ ?_); kernel_rfl)
            | (with_reducible refine Rg.plan_done ?_)
            | (with_reducible refine Rg.calm_normal ?_))
          intro hh; apply hh; clear hh
          rw [mask_val num k h4 HN.out]
          have mS : Mut w4.heap.size w12 (w12.setCell ⟨w4.heap.size, 8, none⟩ (.int .u64 (md num k : Nat))).drew := ((Mut.refl _ _).setCell _ _ _).drew
          have rS : row? (w12.setCell ⟨w4.heap.size, 8, none⟩ (.int .u64 (md num k : Nat))).drew w4.heap.size = some (hvA true 0 ver (.slice a2 dl.length c2) (.slice a3 src.length c3) (.slice a4 tok.length c4) false false (md num k) k) := by rw [row?_drew, row?_setCell_eq RH12.out]; rfl
          generalize (w12.setCell ⟨w4.heap.size, 8, none⟩ (.int .u64 (md num k : Nat))).drew = WS at mS rS ⊢
          have oS := mS.own O12.out (by omega)
          have zS := mS.size
          have bS : Below w4.heap.size w4 WS := B12.out.trans (mS.below (Nat.le_refl _) (by omega))
          have RS := Lib.hid rS
          have OS := Lib.hid oS
          have BS := Lib.hid bS
          clear mS rS oS bS c8 f8 RH12 O12 B12
          refine app_zeros rfl _ _ 23 3 rfl wr.heap.size 5 i0 Try.underlying23 Try.underlying3 hi hz0 hz1 hz2 v11 ZB rfl OS.out (R + 3) (congrArg (Value.int .i64) (wq3 HSL.out.2.2.1)) (by have := HZL.out; have := HN10.out; omega) (by have := HSL.out.2.2.1; omega) (by omega) ?_
          intro v13 w13 o13 g13
          have b13 : Below wr.heap.size WS w13 := (Below.refl _ _).grown g13 (by omega) (fun q hq => (OS.out.lt q hq).1)
          have hg := get_any (ZB ++ List.replicate (R + 3) 0) (by have := HZL.out; have := HN10.out; have := HSL.out.2.2.1; simp; omega) v13 w13 (Own.sl (by simpa using o13))
          rw [HGET.out] at hg
          have z13 := b13.size
          have b13' : Below w4.heap.size w4 w13 := BS.out.trans (b13.mono (by omega))
          have r13 := Rg.row_below b13 RS.out (by omega)
          have HG := Lib.hid hg
          have B13 := Lib.hid b13'
          have R13 := Lib.hid r13
          clear o13 g13 b13 b13' r13 hg OS BS RS HGET
          go_wp2_with fail
          refine HG.out.mono ?_
          rintro e w14 ⟨vd, vs', vt', he, od, os', ot, -, b14⟩
          dsimp only at he od os' ot
          subst he
          obtain ⟨xd, yd, rfl, -, -, -⟩ := id (Own.sl od)
          obtain ⟨xs, ys, rfl, -, -, -⟩ := id (Own.sl os')
          obtain ⟨xt, yt, rfl, -, -, -⟩ := id (Own.sl ot)
          have bal : Below w14.heap.size w14 (w14.alloc (.cells (hvA true 0 ver (.slice xd dl.length yd) (.slice xs src.length ys) (.slice xt tok.length yt) false false (md num k) k) 26)) := (Below.refl _ _).alloc (Nat.le_refl _) _
          have r14 := Rg.stable_row bal (Rg.stable_row b14 R13.out)
          have q14 : row? (w14.alloc (.cells (hvA true 0 ver (.slice xd dl.length yd) (.slice xs src.length ys) (.slice xt tok.length yt) false false (md num k) k) 26)) w14.heap.size = some (hvA true 0 ver (.slice xd dl.length yd) (.slice xs src.length ys) (.slice xt tok.length yt) false false (md num k) k) := row?_alloc_at _ _ _ _ rfl
          have b14' : Below w4.heap.size w4 (w14.alloc (.cells (hvA true 0 ver (.slice xd dl.length yd) (.slice xs src.length ys) (.slice xt tok.length yt) false false (md num k) k) 26)) := (B13.out.trans (b14.mono (by have := B13.out.size; omega))).trans (bal.mono (by have := B13.out.size; have := b14.size; omega))
          have sd14 := (Own.sl od).below bal
          have ss14 := (Own.sl os').below bal
          have st14 : Sl (w14.alloc (.cells (hvA true 0 ver (.slice xd dl.length yd) (.slice xs src.length ys) (.slice xt tok.length yt) false false (md num k) k) 26)) (.slice xt tok.length yt) tok := (Own.sl ot).below bal
          have SD14 := Lib.hid sd14
          have SS14 := Lib.hid ss14
          have ST14 := Lib.hid st14
          have B14 := Lib.hid b14'
          have hsz : (w14.alloc (.cells (hvA true 0 ver (.slice xd dl.length yd) (.slice xs src.length ys) (.slice xt tok.length yt) false false (md num k) k) 26)).heap.size = w14.heap.size + 1 := by simp
          clear od os' ot b14 bal b14' sd14 ss14 st14 HG R13 B13
          go_wp2_with fail
          refine (sameHeader_eq true 0 ver false false (md num k) k dl src tok (by have := HD.out; omega) (by have := HSL.out.1; omega) (by have := HSL.out.2.1; simp; try omega) _ _ _ _ _ _ _ SD14.out (X2.out.below B14.out) SS14.out (X3.out.below B14.out) ST14.out (X4.out.below B14.out)).mono ?_
          rintro e w15 ⟨rfl, b15⟩
          have b15' : Below w.heap.size w w15 := (B4.out.trans (B14.out.mono z4)).trans (b15.mono (by have := B14.out.size; omega))
          clear r14 q14 hsz b15
          go_wp2_with fail
          refine (awake_any w15).mono ?_
          rintro e w16 ⟨rfl, b16⟩
          have b16' : Below w.heap.size w w16 := b15'.trans (b16.mono b15'.size)
          go_wp2_with fail
          go_ret
          exact ⟨rfl, b16'⟩
    · have hF := (longF_facts (kind := 2) (nl := nl) (by decide) h1 h4).2.2.2.2.2
      have hl0 := lit0 (longF 2 nl) ver (191 + (nl : Int) + 32) (by rw [hF]; simp; try omega)
      have hl0n : ([longF 2 nl] ++ be ver 4 ++ [8]).length = 6 := by simp [be_length]
      obtain ⟨L0, hL0⟩ : ∃ L0, [longF 2 nl] ++ be ver 4 ++ [8] = L0 := ⟨_, rfl⟩
      rw [hL0] at hl0 hl0n
      have ownA : ((w4.alloc (.cells (hvA true 2 ver (.slice a2 dl.length c2) (.slice a3 src.length c3) (.slice none 0 0) false false num nl) 26)).alloc (.cells #[.int .u8 (191 + (nl : Int) + 32), .int .u8 ((ver : Int) / 16777216 % 256), .int .u8 ((ver : Int) / 65536 % 256), .int .u8 ((ver : Int) / 256 % 256), .int .u8 ((ver : Int) % 256), .int .u8 8] 5)).ownsRow (w4.heap.size + 1) 5 1 (.slice (some ⟨w4.heap.size + 1, 0, none⟩) 6 6) L0.length (L0.map bv) := by
        rw [hl0, hl0n]
        have := World.ownsRow_lit (base := w4.heap.size + 1) (size := 1) (w4.alloc (.cells (hvA true 2 ver (.slice a2 dl.length c2) (.slice a3 src.length c3) (.slice none 0 0) false false num nl) 26)) #[.int .u8 (191 + (nl : Int) + 32), .int .u8 ((ver : Int) / 16777216 % 256), .int .u8 ((ver : Int) / 65536 % 256), .int .u8 ((ver : Int) / 256 % 256), .int .u8 ((ver : Int) % 256), .int .u8 8] 6 (by simp) (by decide) (by simp) (e := 5)
        rw [World.size_alloc] at this
        exact this
      have bA : Below w4.heap.size w4 ((w4.alloc (.cells (hvA true 2 ver (.slice a2 dl.length c2) (.slice a3 src.length c3) (.slice none 0 0) false false num nl) 26)).alloc (.cells #[.int .u8 (191 + (nl : Int) + 32), .int .u8 ((ver : Int) / 16777216 % 256), .int .u8 ((ver : Int) / 65536 % 256), .int .u8 ((ver : Int) / 256 % 256), .int .u8 ((ver : Int) % 256), .int .u8 8] 5)) := bel2 _ _ _
      have rA : row? ((w4.alloc (.cells (hvA true 2 ver (.slice a2 dl.length c2) (.slice a3 src.length c3) (.slice none 0 0) false false num nl) 26)).alloc (.cells #[.int .u8 (191 + (nl : Int) + 32), .int .u8 ((ver : Int) / 16777216 % 256), .int .u8 ((ver : Int) / 65536 % 256), .int .u8 ((ver : Int) / 256 % 256), .int .u8 ((ver : Int) % 256), .int .u8 8] 5)) w4.heap.size = some (hvA true 2 ver (.slice a2 dl.length c2) (.slice a3 src.length c3) (.slice none 0 0) false false num nl) := by rw [row?_alloc_past _ _ _ (by simp)]; exact row?_alloc_at _ _ _ _ rfl
      have qA : row? ((w4.alloc (.cells (hvA true 2 ver (.slice a2 dl.length c2) (.slice a3 src.length c3) (.slice none 0 0) false false num nl) 26)).alloc (.cells #[.int .u8 (191 + (nl : Int) + 32), .int .u8 ((ver : Int) / 16777216 % 256), .int .u8 ((ver : Int) / 65536 % 256), .int .u8 ((ver : Int) / 256 % 256), .int .u8 ((ver : Int) % 256), .int .u8 8] 5)) w.heap.size = some (bvs dl) := Rg.row_below bA R4.out (row?_lt R4.out)
      have zA : ((w4.alloc (.cells (hvA true 2 ver (.slice a2 dl.length c2) (.slice a3 src.length c3) (.slice none 0 0) false false num nl) 26)).alloc (.cells #[.int .u8 (191 + (nl : Int) + 32), .int .u8 ((ver : Int) / 16777216 % 256), .int .u8 ((ver : Int) / 65536 % 256), .int .u8 ((ver : Int) / 256 % 256), .int .u8 ((ver : Int) % 256), .int .u8 8] 5)).heap.size = w4.heap.size + 2 := by simp
      have OA := Lib.hid ownA
      have BA := Lib.hid bA
      have RA := Lib.hid rA
      have QA := Lib.hid qA
      have HL0 := Lib.hid hL0
      have HL0n := Lib.hid hl0n
      clear ownA bA rA qA hF hl0 hL0 hl0n
      have sdA := sl_row8 QA.out HD.out
      have SDA := Lib.hid sdA
      clear sdA
      go_wp2_with (at_builtin; refine Classical.byContradiction ?_)
      intro hh; apply hh; clear hh
      refine app_sl rfl _ _ 23 rfl (w4.heap.size + 1) 5 i0 Try.underlying23 hi hz0 hz1 hz2 (.slice (some ⟨w4.heap.size + 1, 0, none⟩) 6 6) L0 rfl OA.out _ dl rfl SDA.out (by have := HD.out; have := HL0n.out; omega) (by rw [zA]; omega) ?_
      intro v5 w5 o5 g5
      generalize ((w4.alloc (.cells (hvA true 2 ver (.slice a2 dl.length c2) (.slice a3 src.length c3) (.slice none 0 0) false false num nl) 26)).alloc (.cells #[.int .u8 (191 + (nl : Int) + 32), .int .u8 ((ver : Int) / 16777216 % 256), .int .u8 ((ver : Int) / 65536 % 256), .int .u8 ((ver : Int) / 256 % 256), .int .u8 ((ver : Int) % 256), .int .u8 8] 5)) = WA at *
      have b5 : Below (w4.heap.size + 1) WA w5 := (Below.refl _ _).grown g5 (by omega) (fun k hk => (OA.out.lt k hk).1)
      have o5' : w5.ownsRow (w4.heap.size + 1) 5 1 v5 (L0 ++ dl).length ((L0 ++ dl).map bv) := by simpa using o5
      have O5 := Lib.hid o5'
      clear o5'
      have B5 := Lib.hid b5
      have z5 := b5.size
      have hsm : ((src.length : Nat) : Int) % 256 = (src.length : Nat) := by have := HSL.out.1; omega
      clear o5 g5 b5 OA SDA hw2 hw3 hw4 hwn
      go_wp2_with (at_builtin; refine Classical.byContradiction ?_)
      intro hh; apply hh; clear hh
      refine app_sl rfl _ _ 23 rfl (w4.heap.size + 1) 5 i0 Try.underlying23 hi hz0 hz1 hz2 v5 (L0 ++ dl) rfl (O5.out.alloc _) _ [UInt8.ofNat src.length] rfl (lit1_sl _ (by have := HSL.out.1; omega) _) (by have := HD.out; have := HL0n.out; simp; omega) (by simp; omega) ?_
      intro v6 w6 o6 g6
      have b6 : Below (w4.heap.size + 1) WA w6 := (B5.out.alloc (by omega) _).grown g6 (by simp; omega) (fun k hk => (O5.out.lt k hk).1)
      have o6' : w6.ownsRow (w4.heap.size + 1) 5 1 v6 (L0 ++ dl ++ [UInt8.ofNat src.length]).length ((L0 ++ dl ++ [UInt8.ofNat src.length]).map bv) := by simpa using o6
      have O6 := Lib.hid o6'
      clear o6'
      have B6 := Lib.hid b6
      have z6 := b6.size
      have ssrc := HS.out.below (B4.out.trans ((BA.out.trans (b6.mono (Nat.le_succ _))).mono z4))
      have SSRC := Lib.hid ssrc
      clear o6 g6 b6 B5 O5 z5 ssrc hsm
      go_wp2_with (at_builtin; refine Classical.byContradiction ?_)
      intro hh; apply hh; clear hh
      refine app_sl rfl _ _ 23 rfl (w4.heap.size + 1) 5 i0 Try.underlying23 hi hz0 hz1 hz2 v6 (L0 ++ dl ++ [UInt8.ofNat src.length]) rfl O6.out _ src rfl SSRC.out (by have := HD.out; have := HL0n.out; have := HSL.out.1; simp; omega) (by omega) ?_
      intro v7 w7 o7 g7
      have b7 : Below (w4.heap.size + 1) WA w7 := B6.out.grown g7 (by omega) (fun k hk => (O6.out.lt k hk).1)
      obtain ⟨L7, hL7⟩ : ∃ L7, L0 ++ dl ++ [UInt8.ofNat src.length] ++ src = L7 := ⟨_, rfl⟩
      have hn7 : L7.length ≤ 100 := by rw [← hL7]; have := HD.out; have := HL0n.out; have := HSL.out.1; simp; omega
      have o7' : w7.ownsRow (w4.heap.size + 1) 5 1 v7 L7.length (L7.map bv) := by rw [← hL7]; simpa using o7
      have O7 := Lib.hid o7'
      have B7 := Lib.hid b7
      have HL7 := Lib.hid hL7
      have HN7 := Lib.hid hn7
      have z7 := b7.size
      clear o7 o7' g7 b7 hL7 hn7 O6 B6 SSRC z6
      have hz : [longF 2 nl] ++ be ver 4 ++ [UInt8.ofNat dl.length] ++ dl ++ [UInt8.ofNat src.length] ++ src ++ longTok 2 [] = L7 := by
        rw [← HL7.out, ← HL0.out, HD.out, longTok, if_neg (by decide)]; simp
      have hn9 : L7.length ≤ 200 := by have := HN7.out; omega
      generalize L7 = L9 at *
      generalize w7 = w9 at *
      generalize v7 = v9 at *
      have HZ := Lib.hid hz
      have HN9 := Lib.hid hn9
      have O9 := O7
      have B9 := B7
      have z9 := z7
      clear hz hn9 O7 B7 z7 HL7 HN7 HL0 HL0n
      have hq0 : wrap64 ((R : Int) + nl) = R + nl := wq0 HSL.out.2.2.2
      go_wp2_with (at_builtin; refine Classical.byContradiction ?_)
      intro hh; apply hh; clear hh
      have hRn : R + nl ≤ 1004 := HSL.out.2.2.2
      rw [wq1 hRn, wq2]
      refine app_sl rfl _ _ 23 rfl (w4.heap.size + 1) 5 i0 Try.underlying23 hi hz0 hz1 hz2 v9 L9 rfl (O9.out.alloc _) _ (vin (R + nl) 2) rfl (lit2_sl _ hRn _) (by have := HN9.out; simp [vin_length]; omega) (by simp; omega) ?_
      intro v10 w10 o10 g10
      have b10 : Below (w4.heap.size + 1) WA w10 := (B9.out.alloc (by omega) _).grown g10 (by simp; omega) (fun k hk => (O9.out.lt k hk).1)
      obtain ⟨L10, hL10⟩ : ∃ L10, L9 ++ vin (R + nl) 2 = L10 := ⟨_, rfl⟩
      have hn10 : L10.length ≤ 202 := by rw [← hL10]; have := HN9.out; simp [vin_length]; omega
      have o10' : w10.ownsRow (w4.heap.size + 1) 5 1 v10 L10.length (L10.map bv) := by rw [← hL10]; simpa using o10
      have O10 := Lib.hid o10'
      have B10 := Lib.hid b10
      have HL10 := Lib.hid hL10
      have HN10 := Lib.hid hn10
      have z10 := b10.size
      clear o10 o10' g10 b10 hL10 hn10 O9 B9 z9 HN9 hq0 hRn
      obtain ⟨Z, hZ⟩ : ∃ Z, be num nl = Z := ⟨_, rfl⟩
      have hbl := be_length num nl
      have hstep := be_take_succ num nl
      rw [hZ] at hbl hstep
      have HST := Lib.hid hstep
      have HZE := Lib.hid hZ
      clear hstep hZ
      go_wp2_with fail
      go_loopw [18, 19] (fun v18 v19 wr => ∃ k : Nat, k ≤ nl ∧ v19 = .int .i64 ((nl : Int) - 1 - k) ∧ wr.ownsRow (w4.heap.size + 1) 5 1 v18 (L10.length + k) ((L10 ++ Z.take k).map bv) ∧ Below (w4.heap.size + 1) WA wr) (fun _ v _ => (intOf v + 1).toNat)
      case atStart => exact ⟨0, by omega, by simp, by simpa using O10.out, B10.out⟩
      case round =>
        obtain ⟨k, hk, rfl, how, hb⟩ := hrel
        have HO := Lib.hid how
        have zr := hb.size
        have BR := Lib.hid hb
        clear how hb
        by_cases hlt : k < nl
        · have hv := shr_byte num (nl - 1 - k)
          have hst := HST.out k hlt
          have hge : (0 : Int) ≤ (nl : Int) - 1 - k := by omega
          have hsub : ((nl : Int) - 1 - (k : Int)) = ((nl - 1 - k : Nat) : Int) := by omega
          generalize UInt8.ofNat (num / 256 ^ (nl - 1 - k)) = c at hv hst
          have HVV := Lib.hid hv
          have HS' := Lib.hid hst
          clear hv hst
          go_wp2_with (at_builtin; refine Classical.byContradiction ?_)
          intro hh; apply hh; clear hh
          rw [HVV.out]
          refine app_sl rfl _ _ 23 rfl (w4.heap.size + 1) 5 i0 Try.underlying23 hi hz0 hz1 hz2 u18 (L10 ++ Z.take k) rfl (by have := HO.out.alloc (.cells #[.int .u8 (n8 c : Nat)] 5); simpa [List.length_take, hbl, Nat.min_eq_left hk] using this) _ [c] rfl (Rg.lit_sl _ _ _) (by have := HN10.out; simp; omega) (by simp; omega) ?_
          intro v' wn on gn
          have bn : Below (w4.heap.size + 1) WA wn := (BR.out.alloc (by omega) _).grown gn (by simp; omega) (fun q hq => (HO.out.lt q hq).1)
          have ON := Lib.hid on
          clear on gn
          go_wp2_with fail
          go_roundw
          case rel =>
            refine ⟨k + 1, by omega, by push_cast; exact congrArg (Value.int .i64) (by omega), ?_, bn⟩
            have := ON.out
            rw [HS'.out]
            simpa [List.length_take, hbl, Nat.min_eq_left hk, Nat.add_assoc] using this
          case measure => simp [intOf]; omega
        · obtain rfl : k = nl := by omega
          have hge : ¬ ((0 : Int) ≤ (k : Int) - 1 - k) := by omega
          have rH : row? wr w4.heap.size = some (hvA true 2 ver (.slice a2 dl.length c2) (.slice a3 src.length c3) (.slice none 0 0) false false num k) := Rg.row_below BR.out RA.out (by omega)
          have bR : Below w4.heap.size w4 wr := BA.out.trans (BR.out.mono (Nat.le_succ _))
          have hzt : Z.take k = Z := List.take_of_length_le (by omega)
          obtain ⟨ZB, hZB⟩ : ∃ ZB, longB 2 ver dl src [] num k R = ZB := ⟨_, rfl⟩
          have hZB2 : L10 ++ Z = ZB := by rw [← hZB, longB, HZ.out, HL10.out, HZE.out]
          have hZl : ZB.length = L10.length + k := by rw [← hZB2, List.length_append, hbl]
          have hm : mayN true 2 ver dl.length src.length ([] : List UInt8).length false false num k = true := by
            unfold mayN
            rw [if_neg (by have := HD.out; have := HN.out; omega), if_neg (by decide)]
            exact decide_eq_true ⟨.inr ⟨rfl, rfl⟩, HSL.out.1, by have := HSL.out.2.1; simp; try omega, rfl, rfl⟩
          have sw : Sl wr u18 ZB := Own.sl (l := ZB) (by have := HO.out; rw [hzt, hZB2] at this; rw [hZl]; exact this)
          have hput := put_long 2 ver dl src [] (.slice a2 dl.length c2) (.slice a3 src.length c3) (.slice none 0 0) num k R hm HV.out (by have := HSL.out.2.2.2; omega) wr (X2.out.below bR) (X3.out.below bR) (Sl.nil _)
          rw [hZB] at hput
          obtain ⟨aw_, cw, rfl, -, -, -⟩ := id sw
          have hget : get (longB 2 ver dl src [] num k R ++ List.replicate (R + 3) 0) = (⟨true, 2, ver, dl, src, [], false, false, md num k, k⟩, (longB 2 ver dl src [] num k R).length, R, 0) := get_longB 2 ver dl src [] (List.replicate (R + 3) 0) num k R (.inr ⟨rfl, rfl⟩) HV.out HD.out HSL.out.1 (by have := HSL.out.2.1; simp; try omega) h1 h4 (by have := HSL.out.2.2.2; omega) (by simp)
          rw [hZB] at hget
          have HGET := Lib.hid hget
          have HPUT := Lib.hid hput
          have SW := Lib.hid sw
          have HZL := Lib.hid hZl
          have BRR := Lib.hid bR
          have RH := Lib.hid rH
          clear hget hput sw hZl hm hzt hZB hZB2 HO bR HZ HL10 HZE HST hbl
          go_wp2_with fail
          refine HPUT.out.mono ?_
          rintro e w11 ⟨v11, rfl, o11, b11⟩
          have O11 := Lib.hid o11
          have B11 := Lib.hid b11
          have z11 := b11.size
          have SW11 := Lib.hid (SW.out.below b11)
          have rH11 := Rg.stable_row b11 RH.out
          have RH11 := Lib.hid rH11
          clear o11 b11 rH rH11 HPUT
          go_wp2_with fail
          refine (same_any ZB ZB (by have := HZL.out; have := HN10.out; omega) _ _ w11 (Own.sl O11.out) SW11.out).mono ?_
          rintro e w12 ⟨rfl, b12⟩
          rw [decide_eq_true rfl]
          have rH12 := Rg.stable_row b12 RH11.out
          have o12 : w12.ownsRow wr.heap.size 5 1 v11 ZB.length (ZB.map bv) := own_grown (r := none) O11.out ⟨b12.os, b12.tape, b12.output, b12.size, fun k hk _ => b12.block k hk⟩ (fun k hk he => by cases he)
          have b12' : Below w4.heap.size w4 w12 := BRR.out.trans ((B11.out.trans (b12.mono B11.out.size)).mono BRR.out.size)
          have O12 := Lib.hid o12
          have B12 := Lib.hid b12'
          have z12 := b12.size
          have c8 : w12.cell? ⟨w4.heap.size, 8, none⟩ = some (.int .u64 (num : Nat)) := row?_cell rH12 8
          have f8 := row?_frozen rH12 8
          have RH12 := Lib.hid rH12
          clear o12 b12 b12' rH12 O11 B11 SW11 RH11
          go_wp2_with fail
          refine Rg.wp_region_plan (Rg.row [(0, 3), (1, 0), (2, 3), (3, 3), (4, 3), (5, 3), (6, 3), (7, 3)] [8]) [8] (by kernel_rfl) (by kernel_rfl) ?_
          simp only [Rg.row, Rg.PT.map, List.map_cons, List.map_nil, List.getD_cons_zero, List.getD_cons_succ]
          go_wp2_with (first
            | (at_builtin; refine Classical.byContradiction ?_)
            | ((with_reducible refine Rg.plan_pure ?_ ?_ ?_); kernel_rfl; kernel_rfl; intro _ _)
            | ((with_reducible refine Rg.plan_take ?_ ?_ ?_); kernel_rfl; kernel_rfl; intro _ _)
            | ((with_reducible refine Rg.plan_keep ?_ ?_); kernel_rfl; intro K hK)
            | (refine hK _ _ (Rg.Keep.refl _) ?_; clear hK)
            | (refine hK _ _ (Rg.Keep.of_below (by assumption)) ?_; clear hK)
            | ((with_reducible refine Rg.plan_skip ?_ ?_); kernel_rfl)
            | (with_reducible refine Rg.plan_done ?_)
            | (with_reducible refine Rg.calm_normal ?_))
          intro hh; apply hh; clear hh
          rw [mask_val num k h4 HN.out]
          have mS : Mut w4.heap.size w12 (w12.setCell ⟨w4.heap.size, 8, none⟩ (.int .u64 (md num k : Nat))).drew := ((Mut.refl _ _).setCell _ _ _).drew
          have rS : row? (w12.setCell ⟨w4.heap.size, 8, none⟩ (.int .u64 (md num k : Nat))).drew w4.heap.size = some (hvA true 2 ver (.slice a2 dl.length c2) (.slice a3 src.length c3) (.slice none 0 0) false false (md num k) k) := by rw [row?_drew, row?_setCell_eq RH12.out]; rfl
          generalize (w12.setCell ⟨w4.heap.size, 8, none⟩ (.int .u64 (md num k : Nat))).drew = WS at mS rS ⊢
          have oS := mS.own O12.out (by omega)
          have zS := mS.size
          have bS : Below w4.heap.size w4 WS := B12.out.trans (mS.below (Nat.le_refl _) (by omega))
          have RS := Lib.hid rS
          have OS := Lib.hid oS
          have BS := Lib.hid bS
          clear mS rS oS bS c8 f8 RH12 O12 B12
          refine app_zeros rfl _ _ 23 3 rfl wr.heap.size 5 i0 Try.underlying23 Try.underlying3 hi hz0 hz1 hz2 v11 ZB rfl OS.out (R + 3) (congrArg (Value.int .i64) (wq3 HSL.out.2.2.1)) (by have := HZL.out; have := HN10.out; omega) (by have := HSL.out.2.2.1; omega) (by omega) ?_
          intro v13 w13 o13 g13
          have b13 : Below wr.heap.size WS w13 := (Below.refl _ _).grown g13 (by omega) (fun q hq => (OS.out.lt q hq).1)
          have hg := get_any (ZB ++ List.replicate (R + 3) 0) (by have := HZL.out; have := HN10.out; have := HSL.out.2.2.1; simp; omega) v13 w13 (Own.sl (by simpa using o13))
          rw [HGET.out] at hg
          have z13 := b13.size
          have b13' : Below w4.heap.size w4 w13 := BS.out.trans (b13.mono (by omega))
          have r13 := Rg.row_below b13 RS.out (by omega)
          have HG := Lib.hid hg
          have B13 := Lib.hid b13'
          have R13 := Lib.hid r13
          clear o13 g13 b13 b13' r13 hg OS BS RS HGET
          go_wp2_with fail
          refine HG.out.mono ?_
          rintro e w14 ⟨vd, vs', vt', he, od, os', ot, -, b14⟩
          dsimp only at he od os' ot
          subst he
          obtain ⟨xd, yd, rfl, -, -, -⟩ := id (Own.sl od)
          obtain ⟨xs, ys, rfl, -, -, -⟩ := id (Own.sl os')
          obtain ⟨xt, yt, rfl, -, -, -⟩ := id (Own.sl ot)
          have bal : Below w14.heap.size w14 (w14.alloc (.cells (hvA true 2 ver (.slice xd dl.length yd) (.slice xs src.length ys) (.slice xt 0 yt) false false (md num k) k) 26)) := (Below.refl _ _).alloc (Nat.le_refl _) _
          have r14 := Rg.stable_row bal (Rg.stable_row b14 R13.out)
          have q14 : row? (w14.alloc (.cells (hvA true 2 ver (.slice xd dl.length yd) (.slice xs src.length ys) (.slice xt 0 yt) false false (md num k) k) 26)) w14.heap.size = some (hvA true 2 ver (.slice xd dl.length yd) (.slice xs src.length ys) (.slice xt 0 yt) false false (md num k) k) := row?_alloc_at _ _ _ _ rfl
          have b14' : Below w4.heap.size w4 (w14.alloc (.cells (hvA true 2 ver (.slice xd dl.length yd) (.slice xs src.length ys) (.slice xt 0 yt) false false (md num k) k) 26)) := (B13.out.trans (b14.mono (by have := B13.out.size; omega))).trans (bal.mono (by have := B13.out.size; have := b14.size; omega))
          have sd14 := (Own.sl od).below bal
          have ss14 := (Own.sl os').below bal
          have st14 : Sl (w14.alloc (.cells (hvA true 2 ver (.slice xd dl.length yd) (.slice xs src.length ys) (.slice xt 0 yt) false false (md num k) k) 26)) (.slice xt 0 yt) [] := (Own.sl ot).below bal
          have SD14 := Lib.hid sd14
          have SS14 := Lib.hid ss14
          have ST14 := Lib.hid st14
          have B14 := Lib.hid b14'
          have hsz : (w14.alloc (.cells (hvA true 2 ver (.slice xd dl.length yd) (.slice xs src.length ys) (.slice xt 0 yt) false false (md num k) k) 26)).heap.size = w14.heap.size + 1 := by simp
          clear od os' ot b14 bal b14' sd14 ss14 st14 HG R13 B13
          go_wp2_with fail
          refine (sameHeader_eq true 2 ver false false (md num k) k dl src [] (by have := HD.out; omega) (by have := HSL.out.1; omega) (by have := HSL.out.2.1; simp; try omega) _ _ _ _ _ _ _ SD14.out (X2.out.below B14.out) SS14.out (X3.out.below B14.out) ST14.out (Sl.nil _)).mono ?_
          rintro e w15 ⟨rfl, b15⟩
          have b15' : Below w.heap.size w w15 := (B4.out.trans (B14.out.mono z4)).trans (b15.mono (by have := B14.out.size; omega))
          clear r14 q14 hsz b15
          go_wp2_with fail
          refine (awake_any w15).mono ?_
          rintro e w16 ⟨rfl, b16⟩
          have b16' : Below w.heap.size w w16 := b15'.trans (b16.mono b15'.size)
          go_wp2_with fail
          go_ret
          exact ⟨rfl, b16'⟩
open Go.ChangeShapes Go.WideShapes Go.ChangeAt
namespace headerLongsP
theorem own : ownKnob Try.prog.godebug = none := by kernel_rfl
theorem laidOut : laidOutB Try.prog = true := by kernel_rfl
theorem readable : (Try.f8.params.toList.all fun t => Try.prog.readableRec t && decide (t < Try.prog.types.size)) = true := by kernel_rfl
theorem contract (H : Type) (enc : TypeId × Value → H) (W : World) (base : Nat) (args : Array Value) (ds gs : List (DataW H)) (before : List MemPlace)
    (hval : ∀ (j : Nat) t v, Try.f8.params[j]? = some t → args[j]? = some v → Value.okWide Try.prog W .any base t v)
    (hW : DataW.Whole enc Try.prog Try.f8.params.toList Rows.headerLongsSpec.vars false W args.toList ds gs before) :
    Calls Try.prog 8 args W fun e W' => ∃ v, e = .returned v ∧ Rows.headerLongsSpec.post enc Try.prog Try.f8 false true false false W args v W' := by
  have hW' := hW
  obtain ⟨p, q, hA0, hV, rfl, hfz, hnd⟩ := hW
  have hA : DataW.TrodAll enc Try.prog W 0 (fun _ => true) true Try.f8.params.toList args.toList ds p := hA0
  rw [Try.params8] at hA hval
  obtain ⟨v0, vs0, d0, ds0, p0, q0, hargs, rfl, rfl, h0, r0⟩ := trodAll_cons hA
  obtain ⟨v1, vs1, d1, ds1, p1, q1, rfl, rfl, rfl, h1, r1⟩ := trodAll_cons r0
  obtain ⟨v2, vs2, d2, ds2, p2, q2, rfl, rfl, rfl, h2, r2⟩ := trodAll_cons r1
  obtain ⟨v3, vs3, d3, ds3, p3, q3, rfl, rfl, rfl, h3, r3⟩ := trodAll_cons r2
  obtain ⟨v4, vs4, d4, ds4, p4, q4, rfl, rfl, rfl, h4, r4⟩ := trodAll_cons r3
  obtain ⟨v5, vs5, d5, ds5, p5, q5, rfl, rfl, rfl, h5, r5⟩ := trodAll_cons r4
  obtain ⟨v6, vs6, d6, ds6, p6, q6, rfl, rfl, rfl, h6, r6⟩ := trodAll_cons r5
  obtain ⟨v7, vs7, d7, ds7, p7, q7, rfl, rfl, rfl, h7, r7⟩ := trodAll_cons r6
  obtain ⟨rfl, rfl, rfl⟩ := trodAll_nil r7
  obtain rfl : args = #[v0, v1, v2, v3, v4, v5, v6, v7] := by cases args; simp_all
  obtain ⟨version, rfl, h_version⟩ := Law.open_u32 Try.underlying22 (hval 0 22 v0 rfl rfl)
  obtain ⟨dst, h_dst, rfl⟩ := Law.open_bytes Try.underlying45 (by kernel_rfl) ⟨List.replicate 8 5, by kernel_rfl, by kernel_rfl⟩ Try.underlying5 (hval 1 45 v1 rfl rfl)
  obtain ⟨src, h_src⟩ := Law.open_slice Try.underlying23 Try.underlying5 (by kernel_rfl) (hval 2 23 v2 rfl rfl) h2
  obtain ⟨token, h_token⟩ := Law.open_slice Try.underlying23 Try.underlying5 (by kernel_rfl) (hval 3 23 v3 rfl rfl) h3
  obtain ⟨num, rfl, h_num⟩ := Law.open_u32 Try.underlying22 (hval 4 22 v4 rfl rfl)
  obtain ⟨many, rfl, h_many, g_many⟩ := Law.open_i64 Try.underlying3 (hval 5 3 v5 rfl rfl)
  obtain ⟨rest, rfl, h_rest, g_rest⟩ := Law.open_i64 Try.underlying3 (hval 6 3 v6 rfl rfl)
  obtain ⟨second, rfl⟩ := Law.open_bool Try.underlying4 (hval 7 4 v7 rfl rfl)
  refine (longsLaw_any version dst src token num many rest second v2 v3 h_dst h_version h_num W h_src h_token).mono fun e W' ⟨he, hb⟩ => ?_
  subst he
  exact ⟨_, rfl, Law.post_of_law laidOut readable hW' rfl hb rfl Try.underlying4 rfl rfl rfl⟩
set_option maxRecDepth 100000 in
theorem lifted (os : Os) (started : os.Started) (H : Type) (enc : TypeId × Value → H) :
    ReturnsInHanded {} Try.checked os 8 .any (Rows.headerLongsSpec.pre6 enc Try.prog Try.f8 Rows.headerLongsRow.domain false) (Rows.headerLongsSpec.post enc Try.prog Try.f8 false true false false) := by
  refine returnsInHanded_of_change (C := Try.checked) own started (by kernel_rfl) Try.func8
    (ChangeSpec.witness6 (enc := enc) (C := Try.checked) false ⟨#[], #[.int .u32 0, .agg #[.int .u8 0, .int .u8 0, .int .u8 0, .int .u8 0, .int .u8 0, .int .u8 0, .int .u8 0, .int .u8 0], .slice none 0 0, .slice none 0 0, .int .u32 0, .int .i64 0, .int .i64 0, .bool false], []⟩ 8 (by kernel_rfl) (by kernel_rfl) (by kernel_rfl) (by kernel_rfl)) ?_
  intro W base args ds gs before hval hW _ _
  exact contract H enc W base args ds gs before hval hW
theorem said : Rows.HeaderLongsSaid :=
  OpenClaim.holds_of_wide 8 Try.f8 rfl rfl rfl rfl rfl rfl rfl ⟨rfl, rfl, rfl, rfl, rfl⟩ rfl rfl rfl rfl rfl (by kernel_rfl) Try.func8 (by kernel_rfl)
    (of_decide_eq_true (by kernel_rfl)) (by unfold Func.isWrapper; first | (rw [if_pos (by decide +kernel)]; kernel_rfl) | (rw [if_neg (by decide +kernel)]; exact ⟨rfl, rfl⟩))
    (fun os started H enc _ => lifted os started H enc)
end headerLongsP
end Go.Proofs.Ytgaheodnembjiaa
