/- The statement HeaderWindow holds: a number cut as it must be is full again wherever the greatest that came stands. No condition. -/
import Derived.Test.YtgaheodnembjiaaHdrL1
import Derived.Test.YtgaheodnembjiaaLawN
import Derived.Test.YtgaheodnembjiaaLawS
import Derived.Test.YtgaheodnembjiaaLibE
import Derived.Test.YtgaheodnembjiaaRows
namespace Go.Proofs.Ytgaheodnembjiaa
open Go.RowKit Go.Rw Hdr
theorem and_60 (x : Int) : bits .and .u64 x 1152921504606846975 = x % 1152921504606846976 := by
  rw [bits_and64]
  have e : n64 (UInt64.ofInt x &&& UInt64.ofInt 1152921504606846975) = (x % 18446744073709551616).toNat &&& (2 ^ 60 - 1) := by
    show (UInt64.ofInt x &&& UInt64.ofInt 1152921504606846975).toNat = _
    rw [UInt64.toNat_and, u64_ofInt_toNat]; rfl
  rw [e, Nat.and_two_pow_sub_one_eq_mod]
  omega
theorem and_30 (x : Int) : bits .and .u64 x 1073741823 = x % 1073741824 := by
  rw [bits_and64]
  have e : n64 (UInt64.ofInt x &&& UInt64.ofInt 1073741823) = (x % 18446744073709551616).toNat &&& (2 ^ 30 - 1) := by
    show (UInt64.ofInt x &&& UInt64.ofInt 1073741823).toNat = _
    rw [UInt64.toNat_and, u64_ofInt_toNat]; rfl
  rw [e, Nat.and_two_pow_sub_one_eq_mod]
  omega
attribute [local go_sem high] and_60 and_30 and_255 and_65535 and_16777215 and_4294967295
attribute [local go_sem ↓] sh8 sh16 sh24 sh32

set_option maxRecDepth 20000 in
set_option maxHeartbeats 4000000 in
theorem windowLaw_any (acked far at_ : Nat) (h1 : acked < 18446744073709551616) (h2 : far < 18446744073709551616) (h3 : at_ < 18446744073709551616) (w : World) :
    Calls Try.prog 6 #[.int .u64 (acked : Nat), .int .u64 (far : Nat), .int .u64 (at_ : Nat)] w fun e w' => e = .returned (.bool true) ∧ Below w.heap.size w w' := by
  go_enter Try.func6, Try.ntmps6
  go_wp2_with fail
  have eA : (acked : Int) % 1152921504606846976 = ((acked % 1152921504606846976 : Nat) : Int) := by omega
  have eD : 1 + (far : Int) % 1073741824 = ((1 + far % 1073741824 : Nat) : Int) := by omega
  rw [eA, eD]
  have hA : acked % 1152921504606846976 < 1152921504606846976 := by omega
  have hD1 : 1 ≤ 1 + far % 1073741824 := by omega
  have hD2 : 1 + far % 1073741824 ≤ 1073741824 := by omega
  clear eA eD
  generalize acked % 1152921504606846976 = A at hA ⊢
  generalize 1 + far % 1073741824 = D at hD1 hD2 ⊢
  have eS : (A : Int) + (D : Int) = ((A + D : Nat) : Int) := by push_cast; rfl
  rw [eS]
  obtain ⟨N, hN⟩ : ∃ N, A + D = N := ⟨_, rfl⟩
  rw [hN]
  refine (cut_any N A true (by omega) (by omega) w).mono ?_
  rintro e w' ⟨rfl, rfl⟩
  have hcl := cut_least (num := N) (acked := A) (by omega)
  have hfb := fun c largest (ha : A ≤ largest) (hl : largest < N) (hc : c % wide (cut N A true : Nat) = N % wide (cut N A true : Nat)) => full_back (c := c) (num := N) (acked := A) (largest := largest) (by omega) ha hl (by omega) hc
  have hND : N - A = D := by omega
  rw [hND] at hcl
  have hm1 := Nat.mod_lt at_ hD1
  have eM : ((at_ : Int) % (D : Int)) = ((at_ % D : Nat) : Int) := by push_cast; rfl
  obtain ⟨M, hM⟩ : ∃ M, at_ % D = M := ⟨_, rfl⟩
  rw [hM] at hm1 eM
  have fAM : IntKind.u64.wrap ((A : Int) + (M : Int)) = (A : Int) + (M : Int) := by simp only [IntKind.wrap, IntKind.signed, IntKind.bits]; simp; omega
  have f2D : IntKind.u64.wrap (2 * (D : Int)) = 2 * (D : Int) := by simp only [IntKind.wrap, IntKind.signed, IntKind.bits]; simp; omega
  have HFB := Lib.hid hfb
  have HS := Lib.hid (And.intro hA (And.intro hD1 (And.intro hD2 (And.intro hN hm1))))
  have hD0 : ¬ ((D : Int) = 0) := by omega
  clear hfb eS hA hD2 h1 h2 h3 hm1 hD1 hN hM
  rcases hcl with hK | ⟨hK, hk⟩ | ⟨hK, hk⟩ | ⟨hK, hk⟩
  · rw [hK]
    have HB := HFB.out
    rw [hK] at HB
    have HB1 := Lib.hid HB
    clear HB hK 
    go_wp2_with fail
    have eN : (N : Int) % 256 = ((N % 256 : Nat) : Int) := by omega
    have eL : (A : Int) + (M : Int) = ((A + M : Nat) : Int) := by push_cast; rfl
    rw [eN, eL]
    obtain ⟨p1, p2, p3, p4, p5⟩ := HS.out
    have hfin : full (N % 256) 1 (A + M) true = N := HB1.out (N % 256) (A + M) (by omega) (by omega) (by show N % 256 % 256 = N % 256; omega)
    refine (full_any (N % 256) 1 (A + M) true (by omega) (by decide) (by decide) (by omega) _).mono ?_
    rintro e w' ⟨rfl, rfl⟩
    rw [hfin]
    clear eN eL p1 p2 p3 p4 p5 hfin
    go_wp2_with fail
    refine (awake_any _).mono ?_
    rintro e w2 ⟨rfl, b2⟩
    go_wp2_with fail
    go_ret
    exact ⟨rfl, b2⟩
  · rw [hK]
    have hk' : ¬ (2 * (D : Int) ≤ 256) := by omega
    have HB := HFB.out
    rw [hK] at HB
    have HB1 := Lib.hid HB
    clear HB hK hk
    go_wp2_with fail
    have eN : (N : Int) % 65536 = ((N % 65536 : Nat) : Int) := by omega
    have eL : (A : Int) + (M : Int) = ((A + M : Nat) : Int) := by push_cast; rfl
    rw [eN, eL]
    obtain ⟨p1, p2, p3, p4, p5⟩ := HS.out
    have hfin : full (N % 65536) 2 (A + M) true = N := HB1.out (N % 65536) (A + M) (by omega) (by omega) (by show N % 65536 % 65536 = N % 65536; omega)
    refine (full_any (N % 65536) 2 (A + M) true (by omega) (by decide) (by decide) (by omega) _).mono ?_
    rintro e w' ⟨rfl, rfl⟩
    rw [hfin]
    clear eN eL p1 p2 p3 p4 p5 hfin
    go_wp2_with fail
    refine (awake_any _).mono ?_
    rintro e w2 ⟨rfl, b2⟩
    go_wp2_with fail
    go_ret
    exact ⟨rfl, b2⟩
  · rw [hK]
    have hk' : ¬ (2 * (D : Int) ≤ 65536) := by omega
    have HB := HFB.out
    rw [hK] at HB
    have HB1 := Lib.hid HB
    clear HB hK hk
    go_wp2_with fail
    have eN : (N : Int) % 16777216 = ((N % 16777216 : Nat) : Int) := by omega
    have eL : (A : Int) + (M : Int) = ((A + M : Nat) : Int) := by push_cast; rfl
    rw [eN, eL]
    obtain ⟨p1, p2, p3, p4, p5⟩ := HS.out
    have hfin : full (N % 16777216) 3 (A + M) true = N := HB1.out (N % 16777216) (A + M) (by omega) (by omega) (by show N % 16777216 % 16777216 = N % 16777216; omega)
    refine (full_any (N % 16777216) 3 (A + M) true (by omega) (by decide) (by decide) (by omega) _).mono ?_
    rintro e w' ⟨rfl, rfl⟩
    rw [hfin]
    clear eN eL p1 p2 p3 p4 p5 hfin
    go_wp2_with fail
    refine (awake_any _).mono ?_
    rintro e w2 ⟨rfl, b2⟩
    go_wp2_with fail
    go_ret
    exact ⟨rfl, b2⟩
  · rw [hK]
    have hk' : ¬ (2 * (D : Int) ≤ 16777216) := by omega
    have HB := HFB.out
    rw [hK] at HB
    have HB1 := Lib.hid HB
    clear HB hK hk
    go_wp2_with fail
    have eN : (N : Int) % 4294967296 = ((N % 4294967296 : Nat) : Int) := by omega
    have eL : (A : Int) + (M : Int) = ((A + M : Nat) : Int) := by push_cast; rfl
    rw [eN, eL]
    obtain ⟨p1, p2, p3, p4, p5⟩ := HS.out
    have hfin : full (N % 4294967296) 4 (A + M) true = N := HB1.out (N % 4294967296) (A + M) (by omega) (by omega) (by show N % 4294967296 % 4294967296 = N % 4294967296; omega)
    refine (full_any (N % 4294967296) 4 (A + M) true (by omega) (by decide) (by decide) (by omega) _).mono ?_
    rintro e w' ⟨rfl, rfl⟩
    rw [hfin]
    clear eN eL p1 p2 p3 p4 p5 hfin
    go_wp2_with fail
    refine (awake_any _).mono ?_
    rintro e w2 ⟨rfl, b2⟩
    go_wp2_with fail
    go_ret
    exact ⟨rfl, b2⟩
open Go.ChangeShapes Go.WideShapes Go.ChangeAt
namespace headerWindowP
theorem own : ownKnob Try.prog.godebug = none := by kernel_rfl
theorem laidOut : laidOutB Try.prog = true := by kernel_rfl
theorem readable : (Try.f6.params.toList.all fun t => Try.prog.readableRec t && decide (t < Try.prog.types.size)) = true := by kernel_rfl
theorem contract (H : Type) (enc : TypeId × Value → H) (W : World) (base : Nat) (args : Array Value) (ds gs : List (DataW H)) (before : List MemPlace)
    (hval : ∀ (j : Nat) t v, Try.f6.params[j]? = some t → args[j]? = some v → Value.okWide Try.prog W .any base t v)
    (hW : DataW.Whole enc Try.prog Try.f6.params.toList Rows.headerWindowSpec.vars false W args.toList ds gs before) :
    Calls Try.prog 6 args W fun e W' => ∃ v, e = .returned v ∧ Rows.headerWindowSpec.post enc Try.prog Try.f6 false true false false W args v W' := by
  have hW' := hW
  obtain ⟨p, q, hA0, hV, rfl, hfz, hnd⟩ := hW
  have hA : DataW.TrodAll enc Try.prog W 0 (fun _ => true) true Try.f6.params.toList args.toList ds p := hA0
  rw [Try.params6] at hA hval
  obtain ⟨v0, vs0, d0, ds0, p0, q0, hargs, rfl, rfl, h0, r0⟩ := trodAll_cons hA
  obtain ⟨v1, vs1, d1, ds1, p1, q1, rfl, rfl, rfl, h1, r1⟩ := trodAll_cons r0
  obtain ⟨v2, vs2, d2, ds2, p2, q2, rfl, rfl, rfl, h2, r2⟩ := trodAll_cons r1
  obtain ⟨rfl, rfl, rfl⟩ := trodAll_nil r2
  obtain rfl : args = #[v0, v1, v2] := by cases args; simp_all
  obtain ⟨acked, rfl, h_acked⟩ := Law.open_u64 Try.underlying24 (hval 0 24 v0 rfl rfl)
  obtain ⟨far, rfl, h_far⟩ := Law.open_u64 Try.underlying24 (hval 1 24 v1 rfl rfl)
  obtain ⟨at_, rfl, h_at_⟩ := Law.open_u64 Try.underlying24 (hval 2 24 v2 rfl rfl)
  refine (windowLaw_any acked far at_ h_acked h_far h_at_ W).mono fun e W' ⟨he, hb⟩ => ?_
  subst he
  exact ⟨_, rfl, Law.post_of_law laidOut readable hW' rfl hb rfl Try.underlying4 rfl rfl rfl⟩
set_option maxRecDepth 100000 in
theorem lifted (os : Os) (started : os.Started) (H : Type) (enc : TypeId × Value → H) :
    ReturnsInHanded {} Try.checked os 6 .any (Rows.headerWindowSpec.pre6 enc Try.prog Try.f6 Rows.headerWindowRow.domain false) (Rows.headerWindowSpec.post enc Try.prog Try.f6 false true false false) := by
  refine returnsInHanded_of_change (C := Try.checked) own started (by kernel_rfl) Try.func6
    (ChangeSpec.witness6 (enc := enc) (C := Try.checked) false ⟨#[], #[.int .u64 0, .int .u64 0, .int .u64 0], []⟩ 8 (by kernel_rfl) (by kernel_rfl) (by kernel_rfl) (by kernel_rfl)) ?_
  intro W base args ds gs before hval hW _ _
  exact contract H enc W base args ds gs before hval hW
theorem said : Rows.HeaderWindowSaid :=
  OpenClaim.holds_of_wide 6 Try.f6 rfl rfl rfl rfl rfl rfl rfl ⟨rfl, rfl, rfl, rfl, rfl⟩ rfl rfl rfl rfl rfl (by kernel_rfl) Try.func6 (by kernel_rfl)
    (of_decide_eq_true (by kernel_rfl)) (by unfold Func.isWrapper; first | (rw [if_pos (by decide +kernel)]; kernel_rfl) | (rw [if_neg (by decide +kernel)]; exact ⟨rfl, rfl⟩))
    (fun os started H enc _ => lifted os started H enc)
end headerWindowP
end Go.Proofs.Ytgaheodnembjiaa
