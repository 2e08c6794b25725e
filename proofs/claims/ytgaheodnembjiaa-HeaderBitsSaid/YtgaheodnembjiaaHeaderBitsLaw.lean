/- The statement HeaderBits holds: of a short header the name stands as it is, its first byte has just the bits that are told, and its number's lowest bytes. No condition. -/
import Derived.Test.YtgaheodnembjiaaHdrL1
import Derived.Test.YtgaheodnembjiaaLawN
import Derived.Test.YtgaheodnembjiaaLawS
import Derived.Test.YtgaheodnembjiaaLibE
import Derived.Test.YtgaheodnembjiaaRows
import Derived.Test.YtgaheodnembjiaaLow
namespace Go.Proofs.Ytgaheodnembjiaa
open Go.RowKit Go.Rw Hdr
theorem and_62 (x : Int) : bits .and .u64 x 4611686018427387903 = x % 4611686018427387904 := by
  rw [bits_and64]
  have e : n64 (UInt64.ofInt x &&& UInt64.ofInt 4611686018427387903) = (x % 18446744073709551616).toNat &&& (2 ^ 62 - 1) := by
    show (UInt64.ofInt x &&& UInt64.ofInt 4611686018427387903).toNat = _
    rw [UInt64.toNat_and, u64_ofInt_toNat]; rfl
  rw [e, Nat.and_two_pow_sub_one_eq_mod]
  omega
theorem buildBits (ao : Option Addr) (m cap : Nat) (n : Nat) (x : Int) (sp ph : Bool) (w : World) : (buildP 26 #[(3, .slice ao m cap), (8, .int .u64 (n : Nat)), (9, .int .i64 x), (6, .bool sp), (7, .bool ph)]).run Try.prog w = .ok (.agg (hvA false 0 0 (.slice ao m cap) (.slice none 0 0) (.slice none 0 0) sp ph n x)) w := Go.run_build w _ _ _ (by kernel_rfl)
theorem first_is (spin phase : Bool) (nl : Nat) (h1 : 1 ≤ nl) (h4 : nl ≤ 4) : n8 (first spin phase nl) = 63 + nl + (if spin then 32 else 0) + (if phase then 4 else 0) := by
  have : nl = 1 ∨ nl = 2 ∨ nl = 3 ∨ nl = 4 := by omega
  rcases this with rfl | rfl | rfl | rfl <;> cases spin <;> cases phase <;> rfl
theorem put_cut (F : UInt8) (d z : List UInt8) (hd : d.length = 8) : (([F] ++ d ++ z).take 9).drop 1 = d := by
  rw [List.take_append_of_le_length (by simp [hd]), List.take_of_length_le (by simp [hd])]; rfl
theorem put_len (F : UInt8) (d z : List UInt8) (hd : d.length = 8) : ([F] ++ d ++ z).length = 9 + z.length := by
  rw [List.length_append, List.length_append, hd]; rfl
theorem put_num (F : UInt8) (d : List UInt8) (N nl i : Nat) (hd : d.length = 8) (hi : i < nl) : nth ([F] ++ d ++ be N nl) (9 + nl - 1 - i) = UInt8.ofNat (N / 256 ^ i) := by
  have hl : ([F] ++ d).length = 9 := by rw [List.length_append, hd]; rfl
  unfold nth
  rw [List.getElem?_append_right (by rw [hl]; omega), hl]
  have e1 : 9 + nl - 1 - i - 9 = nl - 1 - i := by omega
  have e2 : nl - 1 - (nl - 1 - i) = i := by omega
  rw [e1, List.getElem?_eq_getElem (by rw [be_length]; omega)]
  simp [be, e2]
attribute [local go_sem high] and_62
attribute [local go_sem ↓] ldH stH alH bdR bdH hvA_0 hvA_1 hvA_2 hvA_3 hvA_4 hvA_5 hvA_6 hvA_7 hvA_8 hvA_9
attribute [local go_sem] rldH rstH ralH setRow_alloc_at setRow_alloc_past setRow_drew buildBits

set_option maxRecDepth 20000 in
set_option maxHeartbeats 4000000 in
theorem bitsLaw_any (id_ : List UInt8) (num : Nat) (many : Int) (spin phase : Bool) (hid : id_.length = 8) (hnum : num < 18446744073709551616) (w : World) :
    Calls Try.prog 7 #[.agg (bvs id_), .int .u64 (num : Nat), .int .i64 many, .bool spin, .bool phase] w fun e w' => e = .returned (.bool true) ∧ Below w.heap.size w w' := by
  obtain ⟨i0, hi, hz0, hz1, hz2⟩ := info_parts info8
  go_enter Try.func7, Try.ntmps7
  go_wp2_with fail
  refine (low_any many 4 (by decide) (by decide) _).mono ?_
  rintro e w' ⟨rfl, rfl⟩
  have hlow := low_lt many 4 (by decide)
  have eN : (num : Int) % 4611686018427387904 = ((num % 4611686018427387904 : Nat) : Int) := by omega
  rw [eN]
  have hN : num % 4611686018427387904 < 4611686018427387904 := by omega
  generalize num % 4611686018427387904 = N at hN ⊢
  obtain ⟨nl, hnl⟩ : ∃ nl, low many 4 + 1 = nl := ⟨_, rfl⟩
  have eM : (1 : Int) + (low many 4 : Nat) = (nl : Int) := by omega
  have h1 : 1 ≤ nl := by omega
  have h4 : nl ≤ 4 := by omega
  clear eN hnum
  generalize low many 4 = LW at *
  have hW1 : Below w.heap.size w (w.alloc (.cells (bvs id_) 45)) := (Below.refl _ _).alloc (Nat.le_refl _) _
  have r1 : row? (w.alloc (.cells (bvs id_) 45)) w.heap.size = some (bvs id_) := row?_alloc_at _ _ _ _ rfl
  have s1 : Sl (w.alloc (.cells (bvs id_) 45)) (.slice (some ⟨w.heap.size, 0, none⟩) 8 8) id_ := by have := Sl.row r1; rw [hid] at this; exact this
  have hzz : w.heap.size < (w.alloc (.cells (bvs id_) 45)).heap.size := by simp
  generalize (w.alloc (.cells (bvs id_) 45)) = W1 at hW1 r1 s1 hzz ⊢
  have R1 := Lib.hid r1
  have S1 := Lib.hid s1
  have HNN := Lib.hid hN
  clear r1 s1 hN hnl hlow
  go_wp2_with (at_builtin; refine wpList_append_own _ rfl _ _ 23 rfl W1.heap.size 5 i0 (.int .u8 0) 1 1 Try.underlying23 hi hz0 hz1 hz2 rfl (by decide) (.slice none 0 0) 0 [] rfl (World.ownsRow_nil _ _ _ _) ⟨w.heap.size, 0, none⟩ 8 8 (id_.map bv) rfl (by simp [hid]) ?c1 ?c2 ?c3 ?c4 ?c5 ?_)
  case c1 =>
    intro j u hj
    have hjl : j < id_.length := by have := (List.getElem?_eq_some_iff.1 hj).1; simpa using this
    rw [Addr.add_lit, Nat.zero_add, row?_cell R1.out, ← hj]
    simp [bvs]
  case c2 => exact map_bv_one _
  case c3 => decide
  case c4 => decide
  case c5 => exact Nat.le_refl _
  intro v2 w2 hown2 hgrow2 _
  have b2 : Below W1.heap.size W1 w2 := (Below.refl _ _).grown hgrow2 (Nat.le_refl _) (by intro k hk; cases hk)
  have s2 : Sl w2 v2 id_ := Own.sl (l := id_) (by rw [hid]; simpa using hown2)
  obtain ⟨a2, c2, rfl, -, -, -⟩ := id s2
  rw [hid] at s2
  have r2 := Rg.stable_row b2 R1.out
  have t2 := S1.out.below b2
  have hW2 : Below w.heap.size w w2 := hW1.trans (b2.mono hW1.size)
  have R2 := Lib.hid r2
  have S2 := Lib.hid s2
  have T2 := Lib.hid t2
  clear hown2 hgrow2 b2 s2 r2 t2 R1 S1
  go_wp2_with fail
  refine (put_short id_ hid _ none none 0 0 spin phase N nl 0 h1 h4 (by have := HNN.out; omega) (by decide) (by decide) w2 S2.out).mono ?_
  rintro e w3 ⟨vb, rfl, sb, b3⟩
  have hfi := first_is spin phase nl h1 h4
  have hbl := be_length N nl
  have hlen : ([first spin phase nl] ++ id_ ++ be N nl).length = 9 + nl := by rw [put_len _ _ _ hid, hbl]
  have hcut := put_cut (first spin phase nl) id_ (be N nl) hid
  have hfst : nth ([first spin phase nl] ++ id_ ++ be N nl) 0 = first spin phase nl := by
    generalize first spin phase nl = F
    rfl
  have hnum := fun i (hi : i < nl) => put_num (first spin phase nl) id_ N nl i hid hi
  generalize first spin phase nl = F at hfi hlen hcut hfst hnum sb
  generalize [F] ++ id_ ++ be N nl = BB at hlen hcut hfst hnum sb
  have t3 := T2.out.below b3
  have r3 := Rg.stable_row b3 R2.out
  have hW3 : Below w.heap.size w w3 := hW2.trans (b3.mono hW2.size)
  obtain ⟨ab, cb, rfl, hcb, -, hpb⟩ := id sb
  obtain ⟨bb, off, rfl, hcell⟩ := hpb (by omega)
  have scut := sb.cut 1 9 (by omega) (by omega)
  rw [hcut] at scut
  have HC := Lib.hid hcell
  have T3 := Lib.hid t3
  have R3 := Lib.hid r3
  have SC := Lib.hid scut
  have HFI := Lib.hid hfi
  have HFS := Lib.hid hfst
  have HNU := Lib.hid hnum
  rw [hlen] at hcb ⊢
  have HCB := Lib.hid hcb
  have HLEN := Lib.hid hlen
  clear hcell t3 r3 scut hfi hfst hnum hcut hcb hlen sb hpb b3 T2 R2 S2 hW2 hW1 hbl
  have hcut9 : ∀ W, (Instr.sliceAt 23 (.slice (some ⟨bb, off, none⟩) (9 + nl) cb) (some (.int .i64 1)) (some (.int .i64 9)) none).run Try.prog W = .ok (.slice (cutA (some ⟨bb, off, none⟩) 1 cb) 8 (cb - 1)) W := fun W => by
    have := HCB.out
    rw [cut_lh TB W _ _ _ _ _ _ _ (by omega) (by omega) (by omega)]; rfl
  go_wp2_with fail
  refine Rg.wp_region_plan (Rg.row [(0, 3), (1, 3), (2, 3), (3, 3), (4, 0), (5, 3), (6, 3), (7, 3), (8, 3), (9, 3), (10, 3), (11, 3), (12, 3), (13, 1), (14, 3), (15, 3)] []) [] (by kernel_rfl) (by kernel_rfl) ?_
  simp only [Rg.row, Rg.PT.map, List.map_nil, List.getD_cons_zero, List.getD_cons_succ]
  go_wp2_with (first
    | ((with_reducible refine Rg.plan_pure ?_ ?_ ?_); kernel_rfl; kernel_rfl; intro _ _)
    | ((with_reducible refine Rg.plan_take ?_ ?_ ?_); kernel_rfl; kernel_rfl; intro _ _)
    | ((with_reducible refine Rg.plan_keep ?_ ?_); kernel_rfl; intro K hK)
    | (refine hK _ _ (Rg.Keep.refl _) ?_; clear hK)
    | (refine hK _ _ (Rg.Keep.of_below (by assumption)) ?_; clear hK)
    | ((with_reducible refine Rg.plan_skip ?_ ?_); kernel_rfl)
    | (with_reducible refine Rg.plan_done ?_)
    | (with_reducible refine Rg.calm_normal ?_))
  refine (same_any id_ id_ (by omega) _ _ w3.drew (SC.out.below (Below.refl _ _).drew) (T3.out.below (Below.refl _ _).drew)).mono ?_
  rintro e w4 ⟨rfl, b4⟩
  rw [decide_eq_true rfl]
  have hc4 := fun k hk => below_cell b4 ((HC.out k hk : w3.cell? _ = some _) : w3.drew.cell? _ = some _) (cell_lt (HC.out k hk))
  have hW4 : Below w.heap.size w w4 := hW3.drew.trans (b4.mono hW3.size)
  have HC4 := Lib.hid hc4
  clear hc4 hcut9 HC T3 R3 SC
  cases spin <;> cases phase
  · have hI : ((n8 F : Nat) : Int) = 63 + (nl : Int) := by have := HFI.out; simp at this; omega
    have HI := Lib.hid hI
    clear hI
    go_wp2_with (first
      | ((with_reducible refine Rg.plan_pure ?_ ?_ ?_); kernel_rfl; kernel_rfl; intro _ _)
      | ((with_reducible refine Rg.plan_take ?_ ?_ ?_); kernel_rfl; kernel_rfl; intro _ _)
      | ((with_reducible refine Rg.plan_keep ?_ ?_); kernel_rfl; intro K hK)
      | (refine hK _ _ (Rg.Keep.refl _) ?_; clear hK)
      | (refine hK _ _ (Rg.Keep.of_below (by assumption)) ?_; clear hK)
      | ((with_reducible refine Rg.plan_skip ?_ ?_); kernel_rfl)
      | (with_reducible refine Rg.plan_done ?_)
      | (with_reducible refine Rg.calm_normal ?_))
    clear b4
    go_loopw [14] (fun v wr => ∃ k : Nat, k ≤ nl ∧ v = .int .i64 k ∧ Below w4.heap.size w4 wr) (fun v _ => nl - (intOf v).toNat)
    case atStart => exact ⟨0, by omega, rfl, Below.refl _ _⟩
    case round =>
      obtain ⟨k, hk, rfl, hbr⟩ := hrel
      by_cases hlt : k < nl
      · have hcl := HC4.out (9 + nl - 1 - k) (by have := HLEN.out; omega)
        rw [HNU.out k hlt] at hcl
        have c1 := below_cell hbr hcl (cell_lt hcl)
        rw [show 9 + nl - 1 - k = 8 + nl - k by omega] at c1
        have hv := shr_byte N k
        generalize UInt8.ofNat (N / 256 ^ k) = cc at hcl c1 hv
        have hsub : 9 + (nl : Int) - 1 - (k : Int) = ((9 + nl - 1 - k : Nat) : Int) := by omega
        clear hcl
        go_wp2_with fail
        refine Rg.wp_region_plan (Rg.row [(0, 3), (1, 3), (2, 0), (3, 3), (4, 3), (5, 3), (6, 3), (7, 0), (8, 3), (9, 3), (10, 3), (11, 3), (12, 3), (13, 3)] []) [] (by kernel_rfl) (by kernel_rfl) ?_
        simp only [Rg.row, Rg.PT.map, List.map_nil, List.getD_cons_zero, List.getD_cons_succ]
        go_wp2_with (first
          | ((with_reducible refine Rg.plan_pure ?_ ?_ ?_); kernel_rfl; kernel_rfl; intro _ _)
          | ((with_reducible refine Rg.plan_take ?_ ?_ ?_); kernel_rfl; kernel_rfl; intro _ _)
          | ((with_reducible refine Rg.plan_keep ?_ ?_); kernel_rfl; intro K hK)
          | (refine hK _ _ (Rg.Keep.refl _) ?_; clear hK)
          | (refine hK _ _ (Rg.Keep.of_below (by assumption)) ?_; clear hK)
          | ((with_reducible refine Rg.plan_skip ?_ ?_); kernel_rfl)
          | (with_reducible refine Rg.plan_done ?_)
          | (with_reducible refine Rg.calm_normal ?_))
        go_roundw
        case rel => exact ⟨k + 1, by omega, by go_num, hbr.drew⟩
        case measure => simp [intOf]; omega
      · obtain rfl : k = nl := by omega
        have hcl := HC4.out 0 (by have := HLEN.out; omega)
        rw [HFS.out] at hcl
        have c0 : wr.cell? ⟨bb, off, none⟩ = some (.int .u8 (n8 F : Nat)) := below_cell hbr hcl (cell_lt hcl)
        have hI := HI.out
        clear hcl
        go_wp2_with fail
        refine (awake_any _).mono ?_
        rintro e w5 ⟨rfl, b5⟩
        have hW5 : Below w.heap.size w w5 := (hW4.trans (hbr.mono hW4.size)).trans (b5.mono (by have := hW4.size; have := hbr.size; omega))
        go_wp2_with fail
        go_ret
        exact ⟨rfl, hW5⟩
  · have hI : ((n8 F : Nat) : Int) = 63 + (nl : Int) + 4 := by have := HFI.out; simp at this; omega
    have HI := Lib.hid hI
    clear hI
    go_wp2_with (first
      | ((with_reducible refine Rg.plan_pure ?_ ?_ ?_); kernel_rfl; kernel_rfl; intro _ _)
      | ((with_reducible refine Rg.plan_take ?_ ?_ ?_); kernel_rfl; kernel_rfl; intro _ _)
      | ((with_reducible refine Rg.plan_keep ?_ ?_); kernel_rfl; intro K hK)
      | (refine hK _ _ (Rg.Keep.refl _) ?_; clear hK)
      | (refine hK _ _ (Rg.Keep.of_below (by assumption)) ?_; clear hK)
      | ((with_reducible refine Rg.plan_skip ?_ ?_); kernel_rfl)
      | (with_reducible refine Rg.plan_done ?_)
      | (with_reducible refine Rg.calm_normal ?_))
    clear b4
    go_loopw [14] (fun v wr => ∃ k : Nat, k ≤ nl ∧ v = .int .i64 k ∧ Below w4.heap.size w4 wr) (fun v _ => nl - (intOf v).toNat)
    case atStart => exact ⟨0, by omega, rfl, Below.refl _ _⟩
    case round =>
      obtain ⟨k, hk, rfl, hbr⟩ := hrel
      by_cases hlt : k < nl
      · have hcl := HC4.out (9 + nl - 1 - k) (by have := HLEN.out; omega)
        rw [HNU.out k hlt] at hcl
        have c1 := below_cell hbr hcl (cell_lt hcl)
        rw [show 9 + nl - 1 - k = 8 + nl - k by omega] at c1
        have hv := shr_byte N k
        generalize UInt8.ofNat (N / 256 ^ k) = cc at hcl c1 hv
        have hsub : 9 + (nl : Int) - 1 - (k : Int) = ((9 + nl - 1 - k : Nat) : Int) := by omega
        clear hcl
        go_wp2_with fail
        refine Rg.wp_region_plan (Rg.row [(0, 3), (1, 3), (2, 0), (3, 3), (4, 3), (5, 3), (6, 3), (7, 0), (8, 3), (9, 3), (10, 3), (11, 3), (12, 3), (13, 3)] []) [] (by kernel_rfl) (by kernel_rfl) ?_
        simp only [Rg.row, Rg.PT.map, List.map_nil, List.getD_cons_zero, List.getD_cons_succ]
        go_wp2_with (first
          | ((with_reducible refine Rg.plan_pure ?_ ?_ ?_); kernel_rfl; kernel_rfl; intro _ _)
          | ((with_reducible refine Rg.plan_take ?_ ?_ ?_); kernel_rfl; kernel_rfl; intro _ _)
          | ((with_reducible refine Rg.plan_keep ?_ ?_); kernel_rfl; intro K hK)
          | (refine hK _ _ (Rg.Keep.refl _) ?_; clear hK)
          | (refine hK _ _ (Rg.Keep.of_below (by assumption)) ?_; clear hK)
          | ((with_reducible refine Rg.plan_skip ?_ ?_); kernel_rfl)
          | (with_reducible refine Rg.plan_done ?_)
          | (with_reducible refine Rg.calm_normal ?_))
        go_roundw
        case rel => exact ⟨k + 1, by omega, by go_num, hbr.drew⟩
        case measure => simp [intOf]; omega
      · obtain rfl : k = nl := by omega
        have hcl := HC4.out 0 (by have := HLEN.out; omega)
        rw [HFS.out] at hcl
        have c0 : wr.cell? ⟨bb, off, none⟩ = some (.int .u8 (n8 F : Nat)) := below_cell hbr hcl (cell_lt hcl)
        have hI := HI.out
        clear hcl
        go_wp2_with fail
        refine (awake_any _).mono ?_
        rintro e w5 ⟨rfl, b5⟩
        have hW5 : Below w.heap.size w w5 := (hW4.trans (hbr.mono hW4.size)).trans (b5.mono (by have := hW4.size; have := hbr.size; omega))
        go_wp2_with fail
        go_ret
        exact ⟨rfl, hW5⟩
  · have hI : ((n8 F : Nat) : Int) = 63 + (nl : Int) + 32 := by have := HFI.out; simp at this; omega
    have HI := Lib.hid hI
    clear hI
    go_wp2_with (first
      | ((with_reducible refine Rg.plan_pure ?_ ?_ ?_); kernel_rfl; kernel_rfl; intro _ _)
      | ((with_reducible refine Rg.plan_take ?_ ?_ ?_); kernel_rfl; kernel_rfl; intro _ _)
      | ((with_reducible refine Rg.plan_keep ?_ ?_); kernel_rfl; intro K hK)
      | (refine hK _ _ (Rg.Keep.refl _) ?_; clear hK)
      | (refine hK _ _ (Rg.Keep.of_below (by assumption)) ?_; clear hK)
      | ((with_reducible refine Rg.plan_skip ?_ ?_); kernel_rfl)
      | (with_reducible refine Rg.plan_done ?_)
      | (with_reducible refine Rg.calm_normal ?_))
    clear b4
    go_loopw [14] (fun v wr => ∃ k : Nat, k ≤ nl ∧ v = .int .i64 k ∧ Below w4.heap.size w4 wr) (fun v _ => nl - (intOf v).toNat)
    case atStart => exact ⟨0, by omega, rfl, Below.refl _ _⟩
    case round =>
      obtain ⟨k, hk, rfl, hbr⟩ := hrel
      by_cases hlt : k < nl
      · have hcl := HC4.out (9 + nl - 1 - k) (by have := HLEN.out; omega)
        rw [HNU.out k hlt] at hcl
        have c1 := below_cell hbr hcl (cell_lt hcl)
        rw [show 9 + nl - 1 - k = 8 + nl - k by omega] at c1
        have hv := shr_byte N k
        generalize UInt8.ofNat (N / 256 ^ k) = cc at hcl c1 hv
        have hsub : 9 + (nl : Int) - 1 - (k : Int) = ((9 + nl - 1 - k : Nat) : Int) := by omega
        clear hcl
        go_wp2_with fail
        refine Rg.wp_region_plan (Rg.row [(0, 3), (1, 3), (2, 0), (3, 3), (4, 3), (5, 3), (6, 3), (7, 0), (8, 3), (9, 3), (10, 3), (11, 3), (12, 3), (13, 3)] []) [] (by kernel_rfl) (by kernel_rfl) ?_
        simp only [Rg.row, Rg.PT.map, List.map_nil, List.getD_cons_zero, List.getD_cons_succ]
        go_wp2_with (first
          | ((with_reducible refine Rg.plan_pure ?_ ?_ ?_); kernel_rfl; kernel_rfl; intro _ _)
          | ((with_reducible refine Rg.plan_take ?_ ?_ ?_); kernel_rfl; kernel_rfl; intro _ _)
          | ((with_reducible refine Rg.plan_keep ?_ ?_); kernel_rfl; intro K hK)
          | (refine hK _ _ (Rg.Keep.refl _) ?_; clear hK)
          | (refine hK _ _ (Rg.Keep.of_below (by assumption)) ?_; clear hK)
          | ((with_reducible refine Rg.plan_skip ?_ ?_); kernel_rfl)
          | (with_reducible refine Rg.plan_done ?_)
          | (with_reducible refine Rg.calm_normal ?_))
        go_roundw
        case rel => exact ⟨k + 1, by omega, by go_num, hbr.drew⟩
        case measure => simp [intOf]; omega
      · obtain rfl : k = nl := by omega
        have hcl := HC4.out 0 (by have := HLEN.out; omega)
        rw [HFS.out] at hcl
        have c0 : wr.cell? ⟨bb, off, none⟩ = some (.int .u8 (n8 F : Nat)) := below_cell hbr hcl (cell_lt hcl)
        have hI := HI.out
        clear hcl
        go_wp2_with fail
        refine (awake_any _).mono ?_
        rintro e w5 ⟨rfl, b5⟩
        have hW5 : Below w.heap.size w w5 := (hW4.trans (hbr.mono hW4.size)).trans (b5.mono (by have := hW4.size; have := hbr.size; omega))
        go_wp2_with fail
        go_ret
        exact ⟨rfl, hW5⟩
  · have hI : ((n8 F : Nat) : Int) = 63 + (nl : Int) + 32 + 4 := by have := HFI.out; simp at this; omega
    have HI := Lib.hid hI
    clear hI
    go_wp2_with (first
      | ((with_reducible refine Rg.plan_pure ?_ ?_ ?_); kernel_rfl; kernel_rfl; intro _ _)
      | ((with_reducible refine Rg.plan_take ?_ ?_ ?_); kernel_rfl; kernel_rfl; intro _ _)
      | ((with_reducible refine Rg.plan_keep ?_ ?_); kernel_rfl; intro K hK)
      | (refine hK _ _ (Rg.Keep.refl _) ?_; clear hK)
      | (refine hK _ _ (Rg.Keep.of_below (by assumption)) ?_; clear hK)
      | ((with_reducible refine Rg.plan_skip ?_ ?_); kernel_rfl)
      | (with_reducible refine Rg.plan_done ?_)
      | (with_reducible refine Rg.calm_normal ?_))
    clear b4
    go_loopw [14] (fun v wr => ∃ k : Nat, k ≤ nl ∧ v = .int .i64 k ∧ Below w4.heap.size w4 wr) (fun v _ => nl - (intOf v).toNat)
    case atStart => exact ⟨0, by omega, rfl, Below.refl _ _⟩
    case round =>
      obtain ⟨k, hk, rfl, hbr⟩ := hrel
      by_cases hlt : k < nl
      · have hcl := HC4.out (9 + nl - 1 - k) (by have := HLEN.out; omega)
        rw [HNU.out k hlt] at hcl
        have c1 := below_cell hbr hcl (cell_lt hcl)
        rw [show 9 + nl - 1 - k = 8 + nl - k by omega] at c1
        have hv := shr_byte N k
        generalize UInt8.ofNat (N / 256 ^ k) = cc at hcl c1 hv
        have hsub : 9 + (nl : Int) - 1 - (k : Int) = ((9 + nl - 1 - k : Nat) : Int) := by omega
        clear hcl
        go_wp2_with fail
        refine Rg.wp_region_plan (Rg.row [(0, 3), (1, 3), (2, 0), (3, 3), (4, 3), (5, 3), (6, 3), (7, 0), (8, 3), (9, 3), (10, 3), (11, 3), (12, 3), (13, 3)] []) [] (by kernel_rfl) (by kernel_rfl) ?_
        simp only [Rg.row, Rg.PT.map, List.map_nil, List.getD_cons_zero, List.getD_cons_succ]
        go_wp2_with (first
          | ((with_reducible refine Rg.plan_pure ?_ ?_ ?_); kernel_rfl; kernel_rfl; intro _ _)
          | ((with_reducible refine Rg.plan_take ?_ ?_ ?_); kernel_rfl; kernel_rfl; intro _ _)
          | ((with_reducible refine Rg.plan_keep ?_ ?_); kernel_rfl; intro K hK)
          | (refine hK _ _ (Rg.Keep.refl _) ?_; clear hK)
          | (refine hK _ _ (Rg.Keep.of_below (by assumption)) ?_; clear hK)
          | ((with_reducible refine Rg.plan_skip ?_ ?_); kernel_rfl)
          | (with_reducible refine Rg.plan_done ?_)
          | (with_reducible refine Rg.calm_normal ?_))
        go_roundw
        case rel => exact ⟨k + 1, by omega, by go_num, hbr.drew⟩
        case measure => simp [intOf]; omega
      · obtain rfl : k = nl := by omega
        have hcl := HC4.out 0 (by have := HLEN.out; omega)
        rw [HFS.out] at hcl
        have c0 : wr.cell? ⟨bb, off, none⟩ = some (.int .u8 (n8 F : Nat)) := below_cell hbr hcl (cell_lt hcl)
        have hI := HI.out
        clear hcl
        go_wp2_with fail
        refine (awake_any _).mono ?_
        rintro e w5 ⟨rfl, b5⟩
        have hW5 : Below w.heap.size w w5 := (hW4.trans (hbr.mono hW4.size)).trans (b5.mono (by have := hW4.size; have := hbr.size; omega))
        go_wp2_with fail
        go_ret
        exact ⟨rfl, hW5⟩
open Go.ChangeShapes Go.WideShapes Go.ChangeAt
namespace headerBitsP
theorem own : ownKnob Try.prog.godebug = none := by kernel_rfl
theorem laidOut : laidOutB Try.prog = true := by kernel_rfl
theorem readable : (Try.f7.params.toList.all fun t => Try.prog.readableRec t && decide (t < Try.prog.types.size)) = true := by kernel_rfl
theorem contract (H : Type) (enc : TypeId × Value → H) (W : World) (base : Nat) (args : Array Value) (ds gs : List (DataW H)) (before : List MemPlace)
    (hval : ∀ (j : Nat) t v, Try.f7.params[j]? = some t → args[j]? = some v → Value.okWide Try.prog W .any base t v)
    (hW : DataW.Whole enc Try.prog Try.f7.params.toList Rows.headerBitsSpec.vars false W args.toList ds gs before) :
    Calls Try.prog 7 args W fun e W' => ∃ v, e = .returned v ∧ Rows.headerBitsSpec.post enc Try.prog Try.f7 false true false false W args v W' := by
  have hW' := hW
  obtain ⟨p, q, hA0, hV, rfl, hfz, hnd⟩ := hW
  have hA : DataW.TrodAll enc Try.prog W 0 (fun _ => true) true Try.f7.params.toList args.toList ds p := hA0
  rw [Try.params7] at hA hval
  obtain ⟨v0, vs0, d0, ds0, p0, q0, hargs, rfl, rfl, h0, r0⟩ := trodAll_cons hA
  obtain ⟨v1, vs1, d1, ds1, p1, q1, rfl, rfl, rfl, h1, r1⟩ := trodAll_cons r0
  obtain ⟨v2, vs2, d2, ds2, p2, q2, rfl, rfl, rfl, h2, r2⟩ := trodAll_cons r1
  obtain ⟨v3, vs3, d3, ds3, p3, q3, rfl, rfl, rfl, h3, r3⟩ := trodAll_cons r2
  obtain ⟨v4, vs4, d4, ds4, p4, q4, rfl, rfl, rfl, h4, r4⟩ := trodAll_cons r3
  obtain ⟨rfl, rfl, rfl⟩ := trodAll_nil r4
  obtain rfl : args = #[v0, v1, v2, v3, v4] := by cases args; simp_all
  obtain ⟨id_, h_id_, rfl⟩ := Law.open_bytes Try.underlying45 (by kernel_rfl) ⟨List.replicate 8 5, by kernel_rfl, by kernel_rfl⟩ Try.underlying5 (hval 0 45 v0 rfl rfl)
  obtain ⟨num, rfl, h_num⟩ := Law.open_u64 Try.underlying24 (hval 1 24 v1 rfl rfl)
  obtain ⟨many, rfl, h_many, g_many⟩ := Law.open_i64 Try.underlying3 (hval 2 3 v2 rfl rfl)
  obtain ⟨spin, rfl⟩ := Law.open_bool Try.underlying4 (hval 3 4 v3 rfl rfl)
  obtain ⟨phase, rfl⟩ := Law.open_bool Try.underlying4 (hval 4 4 v4 rfl rfl)
  refine (bitsLaw_any id_ num many spin phase h_id_ h_num W).mono fun e W' ⟨he, hb⟩ => ?_
  subst he
  exact ⟨_, rfl, Law.post_of_law laidOut readable hW' rfl hb rfl Try.underlying4 rfl rfl rfl⟩
set_option maxRecDepth 100000 in
theorem lifted (os : Os) (started : os.Started) (H : Type) (enc : TypeId × Value → H) :
    ReturnsInHanded {} Try.checked os 7 .any (Rows.headerBitsSpec.pre6 enc Try.prog Try.f7 Rows.headerBitsRow.domain false) (Rows.headerBitsSpec.post enc Try.prog Try.f7 false true false false) := by
  refine returnsInHanded_of_change (C := Try.checked) own started (by kernel_rfl) Try.func7
    (ChangeSpec.witness6 (enc := enc) (C := Try.checked) false ⟨#[], #[.agg #[.int .u8 0, .int .u8 0, .int .u8 0, .int .u8 0, .int .u8 0, .int .u8 0, .int .u8 0, .int .u8 0], .int .u64 0, .int .i64 0, .bool false, .bool false], []⟩ 8 (by kernel_rfl) (by kernel_rfl) (by kernel_rfl) (by kernel_rfl)) ?_
  intro W base args ds gs before hval hW _ _
  exact contract H enc W base args ds gs before hval hW
theorem said : Rows.HeaderBitsSaid :=
  OpenClaim.holds_of_wide 7 Try.f7 rfl rfl rfl rfl rfl rfl rfl ⟨rfl, rfl, rfl, rfl, rfl⟩ rfl rfl rfl rfl rfl (by kernel_rfl) Try.func7 (by kernel_rfl)
    (of_decide_eq_true (by kernel_rfl)) (by unfold Func.isWrapper; first | (rw [if_pos (by decide +kernel)]; kernel_rfl) | (rw [if_neg (by decide +kernel)]; exact ⟨rfl, rfl⟩))
    (fun os started H enc _ => lifted os started H enc)
end headerBitsP
end Go.Proofs.Ytgaheodnembjiaa
