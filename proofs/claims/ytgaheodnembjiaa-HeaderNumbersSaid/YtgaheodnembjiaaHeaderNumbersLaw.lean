/- The statement HeaderNumbers holds: how a number is cut, and found again, is the document's; cut as it should be it is found again. No condition. -/
import Derived.Test.YtgaheodnembjiaaHdrL1
import Derived.Test.YtgaheodnembjiaaLawN
import Derived.Test.YtgaheodnembjiaaLawS
import Derived.Test.YtgaheodnembjiaaLibE
import Derived.Test.YtgaheodnembjiaaRows
namespace Go.Proofs.Ytgaheodnembjiaa
open Go.RowKit Go.Rw Hdr
theorem and_61 (x : Int) : bits .and .u64 x 2305843009213693951 = x % 2305843009213693952 := by
  rw [bits_and64]
  have e : n64 (UInt64.ofInt x &&& UInt64.ofInt 2305843009213693951) = (x % 18446744073709551616).toNat &&& (2 ^ 61 - 1) := by
    show (UInt64.ofInt x &&& UInt64.ofInt 2305843009213693951).toNat = _
    rw [UInt64.toNat_and, u64_ofInt_toNat]; rfl
  rw [e, Nat.and_two_pow_sub_one_eq_mod]
  omega
theorem and_30 (x : Int) : bits .and .u64 x 1073741823 = x % 1073741824 := by
  rw [bits_and64]
  have e : n64 (UInt64.ofInt x &&& UInt64.ofInt 1073741823) = (x % 18446744073709551616).toNat &&& (2 ^ 30 - 1) := by
    show (UInt64.ofInt x &&& UInt64.ofInt 1073741823).toNat = _
    rw [UInt64.toNat_and, u64_ofInt_toNat]; rfl
  rw [e, Nat.and_two_pow_sub_one_eq_mod]
  omega
attribute [local go_sem high] and_61 and_30 and_255 and_65535 and_16777215 and_4294967295
attribute [local go_sem ↓] sh8 sh16 sh24 sh32

set_option maxRecDepth 20000 in
set_option maxHeartbeats 4000000 in
theorem numbersLaw_any (num acked : Nat) (any : Bool) (c : Nat) (n : Int) (far : Nat) (h1 : num < 18446744073709551616) (h2 : acked < 18446744073709551616) (h3 : c < 18446744073709551616) (hn1 : -9223372036854775808 ≤ n) (hn2 : n ≤ 9223372036854775807) (h4 : far < 18446744073709551616) (w : World) :
    Calls Try.prog 5 #[.int .u64 (num : Nat), .int .u64 (acked : Nat), .bool any, .int .u64 (c : Nat), .int .i64 n, .int .u64 (far : Nat)] w fun e w' => e = .returned (.bool true) ∧ Below w.heap.size w w' := by
  have hc1 := cut_any num acked any h1 h2 w
  have hc2 := rcut_any num acked any h1 h2 w
  have hf1 := full_any c n num any h3 hn1 hn2 h1 w
  have hf2 := rfull_any c n num any h3 hn1 hn2 h1 w
  generalize cut num acked any = K0 at hc1 hc2
  generalize full c n num any = F0 at hf1 hf2
  have C1 := Lib.hid hc1
  have C2 := Lib.hid hc2
  have F1 := Lib.hid hf1
  have F2 := Lib.hid hf2
  clear hc1 hc2 hf1 hf2 h1 h2 h3 hn1 hn2 h4
  go_enter Try.func5, Try.ntmps5
  go_wp2_with fail
  refine C1.out.mono ?_
  rintro e w' ⟨rfl, rfl⟩
  go_wp2_with fail
  refine C2.out.mono ?_
  rintro e w' ⟨rfl, rfl⟩
  go_wp2_with fail
  refine F1.out.mono ?_
  rintro e w' ⟨rfl, rfl⟩
  go_wp2_with fail
  refine F2.out.mono ?_
  rintro e w' ⟨rfl, rfl⟩
  clear C1 C2 F1 F2
  go_wp2_with fail
  have eA : (acked : Int) % 2305843009213693952 = ((acked % 2305843009213693952 : Nat) : Int) := by omega
  have eD : (far : Int) % 1073741824 = ((far % 1073741824 : Nat) : Int) := by omega
  rw [eA, eD]
  have hA : acked % 2305843009213693952 < 2305843009213693952 := by omega
  have hD2 : far % 1073741824 < 1073741824 := by omega
  clear eA eD
  generalize acked % 2305843009213693952 = A at hA ⊢
  generalize far % 1073741824 = D at hD2 ⊢
  have eS : (A : Int) + 1 + (D : Int) = ((A + 1 + D : Nat) : Int) := by push_cast; rfl
  rw [eS]
  obtain ⟨N, hN⟩ : ∃ N, A + 1 + D = N := ⟨_, rfl⟩
  rw [hN]
  refine (cut_any N A true (by omega) (by omega) w).mono ?_
  rintro e w' ⟨rfl, rfl⟩
  have hcl := cut_range N A true
  have hfb := fun c (hc : c % wide (cut N A true : Nat) = N % wide (cut N A true : Nat)) => full_back (c := c) (num := N) (acked := A) (largest := A) (by omega) (Nat.le_refl _) (by omega) (by omega) hc
  have HFB := Lib.hid hfb
  have HS := Lib.hid (And.intro hA (And.intro hD2 hN))
  have hk : cut N A true = 1 ∨ cut N A true = 2 ∨ cut N A true = 3 ∨ cut N A true = 4 := by omega
  clear hfb eS hA hD2 hcl
  rcases hk with hK | hK | hK | hK
  · rw [hK]
    have HB := HFB.out
    rw [hK] at HB
    have HB1 := Lib.hid HB
    clear HB hK hN
    go_wp2_with fail
    have eN : (N : Int) % 256 = ((N % 256 : Nat) : Int) := by omega
    rw [eN]
    obtain ⟨p1, p2, p3⟩ := HS.out
    have hfin : full (N % 256) 1 A true = N := HB1.out (N % 256) (by show N % 256 % 256 = N % 256; omega)
    have hfin2 : full N 1 A true = N := HB1.out N rfl
    have HF2 := Lib.hid hfin2
    refine (full_any (N % 256) 1 A true (by omega) (by decide) (by decide) (by omega) _).mono ?_
    rintro e w' ⟨rfl, rfl⟩
    rw [hfin]
    clear eN p1 p2 p3 hfin hfin2
    go_wp2_with fail
    have q1 : N < 18446744073709551616 := by have := HS.out; omega
    have q2 : A < 18446744073709551616 := by have := HS.out; omega
    refine (full_any N 1 A true q1 (by decide) (by decide) q2 _).mono ?_
    rintro e w' ⟨rfl, rfl⟩
    rw [HF2.out]
    clear q1 q2
    go_wp2_with fail
    refine (awake_any _).mono ?_
    rintro e w2 ⟨rfl, b2⟩
    go_wp2_with fail
    go_ret
    exact ⟨rfl, b2⟩
  · rw [hK]
    have HB := HFB.out
    rw [hK] at HB
    have HB1 := Lib.hid HB
    clear HB hK hN
    go_wp2_with fail
    have eN : (N : Int) % 65536 = ((N % 65536 : Nat) : Int) := by omega
    rw [eN]
    obtain ⟨p1, p2, p3⟩ := HS.out
    have hfin : full (N % 65536) 2 A true = N := HB1.out (N % 65536) (by show N % 65536 % 65536 = N % 65536; omega)
    have hfin2 : full N 2 A true = N := HB1.out N rfl
    have HF2 := Lib.hid hfin2
    refine (full_any (N % 65536) 2 A true (by omega) (by decide) (by decide) (by omega) _).mono ?_
    rintro e w' ⟨rfl, rfl⟩
    rw [hfin]
    clear eN p1 p2 p3 hfin hfin2
    go_wp2_with fail
    have q1 : N < 18446744073709551616 := by have := HS.out; omega
    have q2 : A < 18446744073709551616 := by have := HS.out; omega
    refine (full_any N 2 A true q1 (by decide) (by decide) q2 _).mono ?_
    rintro e w' ⟨rfl, rfl⟩
    rw [HF2.out]
    clear q1 q2
    go_wp2_with fail
    refine (awake_any _).mono ?_
    rintro e w2 ⟨rfl, b2⟩
    go_wp2_with fail
    go_ret
    exact ⟨rfl, b2⟩
  · rw [hK]
    have HB := HFB.out
    rw [hK] at HB
    have HB1 := Lib.hid HB
    clear HB hK hN
    go_wp2_with fail
    have eN : (N : Int) % 16777216 = ((N % 16777216 : Nat) : Int) := by omega
    rw [eN]
    obtain ⟨p1, p2, p3⟩ := HS.out
    have hfin : full (N % 16777216) 3 A true = N := HB1.out (N % 16777216) (by show N % 16777216 % 16777216 = N % 16777216; omega)
    have hfin2 : full N 3 A true = N := HB1.out N rfl
    have HF2 := Lib.hid hfin2
    refine (full_any (N % 16777216) 3 A true (by omega) (by decide) (by decide) (by omega) _).mono ?_
    rintro e w' ⟨rfl, rfl⟩
    rw [hfin]
    clear eN p1 p2 p3 hfin hfin2
    go_wp2_with fail
    have q1 : N < 18446744073709551616 := by have := HS.out; omega
    have q2 : A < 18446744073709551616 := by have := HS.out; omega
    refine (full_any N 3 A true q1 (by decide) (by decide) q2 _).mono ?_
    rintro e w' ⟨rfl, rfl⟩
    rw [HF2.out]
    clear q1 q2
    go_wp2_with fail
    refine (awake_any _).mono ?_
    rintro e w2 ⟨rfl, b2⟩
    go_wp2_with fail
    go_ret
    exact ⟨rfl, b2⟩
  · rw [hK]
    have HB := HFB.out
    rw [hK] at HB
    have HB1 := Lib.hid HB
    clear HB hK hN
    go_wp2_with fail
    have eN : (N : Int) % 4294967296 = ((N % 4294967296 : Nat) : Int) := by omega
    rw [eN]
    obtain ⟨p1, p2, p3⟩ := HS.out
    have hfin : full (N % 4294967296) 4 A true = N := HB1.out (N % 4294967296) (by show N % 4294967296 % 4294967296 = N % 4294967296; omega)
    have hfin2 : full N 4 A true = N := HB1.out N rfl
    have HF2 := Lib.hid hfin2
    refine (full_any (N % 4294967296) 4 A true (by omega) (by decide) (by decide) (by omega) _).mono ?_
    rintro e w' ⟨rfl, rfl⟩
    rw [hfin]
    clear eN p1 p2 p3 hfin hfin2
    go_wp2_with fail
    have q1 : N < 18446744073709551616 := by have := HS.out; omega
    have q2 : A < 18446744073709551616 := by have := HS.out; omega
    refine (full_any N 4 A true q1 (by decide) (by decide) q2 _).mono ?_
    rintro e w' ⟨rfl, rfl⟩
    rw [HF2.out]
    clear q1 q2
    go_wp2_with fail
    refine (awake_any _).mono ?_
    rintro e w2 ⟨rfl, b2⟩
    go_wp2_with fail
    go_ret
    exact ⟨rfl, b2⟩
open Go.ChangeShapes Go.WideShapes Go.ChangeAt
namespace headerNumbersP
theorem own : ownKnob Try.prog.godebug = none := by kernel_rfl
theorem laidOut : laidOutB Try.prog = true := by kernel_rfl
theorem readable : (Try.f5.params.toList.all fun t => Try.prog.readableRec t && decide (t < Try.prog.types.size)) = true := by kernel_rfl
theorem contract (H : Type) (enc : TypeId × Value → H) (W : World) (base : Nat) (args : Array Value) (ds gs : List (DataW H)) (before : List MemPlace)
    (hval : ∀ (j : Nat) t v, Try.f5.params[j]? = some t → args[j]? = some v → Value.okWide Try.prog W .any base t v)
    (hW : DataW.Whole enc Try.prog Try.f5.params.toList Rows.headerNumbersSpec.vars false W args.toList ds gs before) :
    Calls Try.prog 5 args W fun e W' => ∃ v, e = .returned v ∧ Rows.headerNumbersSpec.post enc Try.prog Try.f5 false true false false W args v W' := by
  have hW' := hW
  obtain ⟨p, q, hA0, hV, rfl, hfz, hnd⟩ := hW
  have hA : DataW.TrodAll enc Try.prog W 0 (fun _ => true) true Try.f5.params.toList args.toList ds p := hA0
  rw [Try.params5] at hA hval
  obtain ⟨v0, vs0, d0, ds0, p0, q0, hargs, rfl, rfl, h0, r0⟩ := trodAll_cons hA
  obtain ⟨v1, vs1, d1, ds1, p1, q1, rfl, rfl, rfl, h1, r1⟩ := trodAll_cons r0
  obtain ⟨v2, vs2, d2, ds2, p2, q2, rfl, rfl, rfl, h2, r2⟩ := trodAll_cons r1
  obtain ⟨v3, vs3, d3, ds3, p3, q3, rfl, rfl, rfl, h3, r3⟩ := trodAll_cons r2
  obtain ⟨v4, vs4, d4, ds4, p4, q4, rfl, rfl, rfl, h4, r4⟩ := trodAll_cons r3
  obtain ⟨v5, vs5, d5, ds5, p5, q5, rfl, rfl, rfl, h5, r5⟩ := trodAll_cons r4
  obtain ⟨rfl, rfl, rfl⟩ := trodAll_nil r5
  obtain rfl : args = #[v0, v1, v2, v3, v4, v5] := by cases args; simp_all
  obtain ⟨num, rfl, h_num⟩ := Law.open_u64 Try.underlying24 (hval 0 24 v0 rfl rfl)
  obtain ⟨acked, rfl, h_acked⟩ := Law.open_u64 Try.underlying24 (hval 1 24 v1 rfl rfl)
  obtain ⟨any, rfl⟩ := Law.open_bool Try.underlying4 (hval 2 4 v2 rfl rfl)
  obtain ⟨c, rfl, h_c⟩ := Law.open_u64 Try.underlying24 (hval 3 24 v3 rfl rfl)
  obtain ⟨n, rfl, h_n, g_n⟩ := Law.open_i64 Try.underlying3 (hval 4 3 v4 rfl rfl)
  obtain ⟨far, rfl, h_far⟩ := Law.open_u64 Try.underlying24 (hval 5 24 v5 rfl rfl)
  refine (numbersLaw_any num acked any c n far h_num h_acked h_c h_n g_n h_far W).mono fun e W' ⟨he, hb⟩ => ?_
  subst he
  exact ⟨_, rfl, Law.post_of_law laidOut readable hW' rfl hb rfl Try.underlying4 rfl rfl rfl⟩
set_option maxRecDepth 100000 in
theorem lifted (os : Os) (started : os.Started) (H : Type) (enc : TypeId × Value → H) :
    ReturnsInHanded {} Try.checked os 5 .any (Rows.headerNumbersSpec.pre6 enc Try.prog Try.f5 Rows.headerNumbersRow.domain false) (Rows.headerNumbersSpec.post enc Try.prog Try.f5 false true false false) := by
  refine returnsInHanded_of_change (C := Try.checked) own started (by kernel_rfl) Try.func5
    (ChangeSpec.witness6 (enc := enc) (C := Try.checked) false ⟨#[], #[.int .u64 0, .int .u64 0, .bool false, .int .u64 0, .int .i64 0, .int .u64 0], []⟩ 8 (by kernel_rfl) (by kernel_rfl) (by kernel_rfl) (by kernel_rfl)) ?_
  intro W base args ds gs before hval hW _ _
  exact contract H enc W base args ds gs before hval hW
theorem said : Rows.HeaderNumbersSaid :=
  OpenClaim.holds_of_wide 5 Try.f5 rfl rfl rfl rfl rfl rfl rfl ⟨rfl, rfl, rfl, rfl, rfl⟩ rfl rfl rfl rfl rfl (by kernel_rfl) Try.func5 (by kernel_rfl)
    (of_decide_eq_true (by kernel_rfl)) (by unfold Func.isWrapper; first | (rw [if_pos (by decide +kernel)]; kernel_rfl) | (rw [if_neg (by decide +kernel)]; exact ⟨rfl, rfl⟩))
    (fun os started H enc _ => lifted os started H enc)
end headerNumbersP
end Go.Proofs.Ytgaheodnembjiaa
