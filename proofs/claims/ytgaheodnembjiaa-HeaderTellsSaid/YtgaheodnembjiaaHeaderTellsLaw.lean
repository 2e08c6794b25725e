/- The statement HeaderTells holds: whether any header may be, how it is laid, and what any bytes tell, is the document's. No condition. -/
import Derived.Test.YtgaheodnembjiaaHdrTe
import Derived.Test.YtgaheodnembjiaaLawH
import Derived.Test.YtgaheodnembjiaaLawN
import Derived.Test.YtgaheodnembjiaaLawS
import Derived.Test.YtgaheodnembjiaaLibE
import Derived.Test.YtgaheodnembjiaaRows
namespace Go.Proofs.Ytgaheodnembjiaa
open Go.RowKit Go.Rw Hdr
open Go.ChangeShapes Go.WideShapes Go.ChangeAt
namespace headerTellsP
theorem own : ownKnob Try.prog.godebug = none := by kernel_rfl
theorem laidOut : laidOutB Try.prog = true := by kernel_rfl
theorem readable : (Try.f3.params.toList.all fun t => Try.prog.readableRec t && decide (t < Try.prog.types.size)) = true := by kernel_rfl
theorem contract (H : Type) (enc : TypeId × Value → H) (W : World) (base : Nat) (args : Array Value) (ds gs : List (DataW H)) (before : List MemPlace)
    (hval : ∀ (j : Nat) t v, Try.f3.params[j]? = some t → args[j]? = some v → Value.okWide Try.prog W .any base t v)
    (hW : DataW.Whole enc Try.prog Try.f3.params.toList Rows.headerTellsSpec.vars false W args.toList ds gs before) :
    Calls Try.prog 3 args W fun e W' => ∃ v, e = .returned v ∧ Rows.headerTellsSpec.post enc Try.prog Try.f3 false true false false W args v W' := by
  have hW' := hW
  obtain ⟨p, q, hA0, hV, rfl, hfz, hnd⟩ := hW
  have hA : DataW.TrodAll enc Try.prog W 0 (fun _ => true) true Try.f3.params.toList args.toList ds p := hA0
  rw [Try.params3] at hA hval
  obtain ⟨v0, vs0, d0, ds0, p0, q0, hargs, rfl, rfl, h0, r0⟩ := trodAll_cons hA
  obtain ⟨v1, vs1, d1, ds1, p1, q1, rfl, rfl, rfl, h1, r1⟩ := trodAll_cons r0
  obtain ⟨v2, vs2, d2, ds2, p2, q2, rfl, rfl, rfl, h2, r2⟩ := trodAll_cons r1
  obtain ⟨rfl, rfl, rfl⟩ := trodAll_nil r2
  obtain rfl : args = #[v0, v1, v2] := by cases args; simp_all
  obtain ⟨h_lg, h_kind, h_ver, h_dst, h_src, h_tok, h_vd, h_vs, h_vt, h_sp, h_ph, h_num, h_nl, rfl, h_sd, h_ss, h_st, h_hv, h_hn⟩ := open_header (hval 0 26 v0 rfl rfl) h0
  obtain ⟨rest, rfl, _, _⟩ := Law.open_i64 Try.underlying3 (hval 1 3 v1 rfl rfl)
  obtain ⟨b, h_b⟩ := Law.open_slice Try.underlying23 Try.underlying5 (by kernel_rfl) (hval 2 23 v2 rfl rfl) h2
  refine (tellsLaw_any h_lg h_kind h_ver h_dst h_src h_tok h_sp h_ph h_num h_nl rest b h_vd h_vs h_vt v2 h_hv W h_sd h_ss h_st h_b).mono fun e W' ⟨he, hb⟩ => ?_
  subst he
  exact ⟨_, rfl, Law.post_of_law laidOut readable hW' rfl hb rfl Try.underlying4 rfl rfl rfl⟩
set_option maxRecDepth 100000 in
theorem lifted (os : Os) (started : os.Started) (H : Type) (enc : TypeId × Value → H) :
    ReturnsInHanded {} Try.checked os 3 .any (Rows.headerTellsSpec.pre6 enc Try.prog Try.f3 Rows.headerTellsRow.domain false) (Rows.headerTellsSpec.post enc Try.prog Try.f3 false true false false) := by
  refine returnsInHanded_of_change (C := Try.checked) own started (by kernel_rfl) Try.func3
    (ChangeSpec.witness6 (enc := enc) (C := Try.checked) false ⟨#[], #[.agg #[.bool false, .int .i64 0, .int .u32 0, .slice none 0 0, .slice none 0 0, .slice none 0 0, .bool false, .bool false, .int .u64 0, .int .i64 0], .int .i64 0, .slice none 0 0], []⟩ 8 (by kernel_rfl) (by kernel_rfl) (by kernel_rfl) (by kernel_rfl)) ?_
  intro W base args ds gs before hval hW _ _
  exact contract H enc W base args ds gs before hval hW
theorem said : Rows.HeaderTellsSaid :=
  OpenClaim.holds_of_wide 3 Try.f3 rfl rfl rfl rfl rfl rfl rfl ⟨rfl, rfl, rfl, rfl, rfl⟩ rfl rfl rfl rfl rfl (by kernel_rfl) Try.func3 (by kernel_rfl)
    (of_decide_eq_true (by kernel_rfl)) (by unfold Func.isWrapper; first | (rw [if_pos (by decide +kernel)]; kernel_rfl) | (rw [if_neg (by decide +kernel)]; exact ⟨rfl, rfl⟩))
    (fun os started H enc _ => lifted os started H enc)
end headerTellsP
end Go.Proofs.Ytgaheodnembjiaa
