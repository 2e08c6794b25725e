/- The statement VaultWindows holds. No condition. -/
import Derived.Test.YtjlpppnpdgenfaaMveVltWn
import Derived.Test.YtjlpppnpdgenfaaMvbLawK
import Derived.Test.YtjlpppnpdgenfaaMvbLawN
import Derived.Test.YtjlpppnpdgenfaaMvb26
import Derived.Test.YtjlpppnpdgenfaaRows
namespace Go.Proofs.Ytjlpppnpdgenfaa
open Go.RowKit Go.Rw Hdr
open Go.ChangeShapes Go.WideShapes Go.ChangeAt
namespace vaultWindowsP
theorem own : ownKnob Try.prog.godebug = none := by kernel_rfl
theorem laidOut : laidOutB Try.prog = true := by kernel_rfl
theorem readable : (Try.f9.params.toList.all fun t => Try.prog.readableRec t && decide (t < Try.prog.types.size)) = true := by kernel_rfl
set_option maxRecDepth 100000 in
theorem contract (H : Type) (enc : TypeId × Value → H) (W : World) (base : Nat) (args : Array Value) (ds gs : List (DataW H)) (before : List MemPlace)
  (hval : ∀ (j : Nat) t v, Try.f9.params[j]? = some t → args[j]? = some v → Value.okWide Try.prog W .any base t v)
  (hW : DataW.Whole enc Try.prog Try.f9.params.toList Rows.vaultWindowsSpec.vars false W args.toList ds gs before) :
  Calls Try.prog 9 args W fun e W' => ∃ v, e = .returned v ∧ Rows.vaultWindowsSpec.post enc Try.prog Try.f9 false true false false W args v W' := by
 have hW' := hW
 obtain ⟨p, q, hA0, hV, rfl, hfz, hnd⟩ := hW
 have hA : DataW.TrodAll enc Try.prog W 0 (fun _ => true) true Try.f9.params.toList args.toList ds p := hA0
 rw [Try.params9] at hA hval
 obtain ⟨v0, vs0, d0, ds0, p0, q0, hargs, rfl, rfl, h0, r0⟩ := trodAll_cons hA
 obtain ⟨v1, vs1, d1, ds1, p1, q1, rfl, rfl, rfl, h1, r1⟩ := trodAll_cons r0
 obtain ⟨v2, vs2, d2, ds2, p2, q2, rfl, rfl, rfl, h2, r2⟩ := trodAll_cons r1
 obtain ⟨v3, vs3, d3, ds3, p3, q3, rfl, rfl, rfl, h3, r3⟩ := trodAll_cons r2
 obtain ⟨v4, vs4, d4, ds4, p4, q4, rfl, rfl, rfl, h4, r4⟩ := trodAll_cons r3
 obtain ⟨rfl, rfl, rfl⟩ := trodAll_nil r4
 obtain rfl : args = #[v0, v1, v2, v3, v4] := by cases args; simp_all
 obtain ⟨k_k, k_i, k_m, k_h1, k_h2, k_h3, rfl⟩ := open_keys (hval 0 25 v0 rfl rfl)
 obtain ⟨acked, rfl, h_acked⟩ := Law.open_u64 Try.underlying28 (hval 1 28 v1 rfl rfl)
 obtain ⟨far, rfl, h_far⟩ := Law.open_u64 Try.underlying28 (hval 2 28 v2 rfl rfl)
 obtain ⟨at_, rfl, h_at_⟩ := Law.open_u64 Try.underlying28 (hval 3 28 v3 rfl rfl)
 obtain ⟨text, h_text⟩ := Law.open_slice Try.underlying27 Try.underlying5 (by kernel_rfl) (hval 4 27 v4 rfl rfl) h4
 refine (vwindows_any k_k k_i k_m k_h1 k_h2 k_h3 acked far at_ text h_acked h_far h_at_ v4 W h_text).mono fun e W' ⟨he, hb⟩ => ?_
 subst he
 exact ⟨_, rfl, Law.post_of_law laidOut readable hW' rfl hb rfl Try.underlying4 rfl rfl rfl⟩
set_option maxRecDepth 100000 in
theorem lifted (os : Os) (started : os.Started) (H : Type) (enc : TypeId × Value → H) :
  ReturnsInHanded {} Try.checked os 9 .any (Rows.vaultWindowsSpec.pre6 enc Try.prog Try.f9 Rows.vaultWindowsRow.domain false) (Rows.vaultWindowsSpec.post enc Try.prog Try.f9 false true false false) := by
 refine returnsInHanded_of_change (C := Try.checked) own started (by kernel_rfl) Try.func9
  (ChangeSpec.witness6 (enc := enc) (C := Try.checked) false ⟨#[], #[.agg #[.int .u8 0, .int .u8 0, .int .u8 0, .int .u8 0, .int .u8 0, .int .u8 0, .int .u8 0, .int .u8 0, .int .u8 0, .int .u8 0, .int .u8 0, .int .u8 0, .int .u8 0, .int .u8 0, .int .u8 0, .int .u8 0, .int .u8 0, .int .u8 0, .int .u8 0, .int .u8 0, .int .u8 0, .int .u8 0, .int .u8 0, .int .u8 0, .int .u8 0, .int .u8 0, .int .u8 0, .int .u8 0, .int .u8 0, .int .u8 0, .int .u8 0, .int .u8 0, .int .u8 0, .int .u8 0, .int .u8 0, .int .u8 0, .int .u8 0, .int .u8 0, .int .u8 0, .int .u8 0, .int .u8 0, .int .u8 0, .int .u8 0, .int .u8 0], .int .u64 0, .int .u64 0, .int .u64 0, .slice none 0 0], []⟩ 8 (by kernel_rfl) (by kernel_rfl) (by kernel_rfl) (by kernel_rfl)) ?_
 intro W base args ds gs before hval hW _ _
 exact contract H enc W base args ds gs before hval hW
theorem said : Rows.VaultWindowsSaid :=
 OpenClaim.holds_of_wide 9 Try.f9 rfl rfl rfl rfl rfl rfl rfl ⟨rfl, rfl, rfl, rfl, rfl⟩ rfl rfl rfl rfl rfl (by kernel_rfl) Try.func9 (by kernel_rfl)
  (of_decide_eq_true (by kernel_rfl)) (by unfold Func.isWrapper; first | (rw [if_pos (by decide +kernel)]; kernel_rfl) | (rw [if_neg (by decide +kernel)]; exact ⟨rfl, rfl⟩))
  (fun os started H enc _ => lifted os started H enc)
end vaultWindowsP
end Go.Proofs.Ytjlpppnpdgenfaa
