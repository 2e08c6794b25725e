/- The statement VaultRounds holds. No condition. -/
import Derived.Test.YtjlpppnpdgenfaaMvbVltRd
import Derived.Test.YtjlpppnpdgenfaaMvbLawK
import Derived.Test.YtjlpppnpdgenfaaMvb26
import Derived.Test.YtjlpppnpdgenfaaMvbLawN
import Derived.Test.YtjlpppnpdgenfaaRows
namespace Go.Proofs.Ytjlpppnpdgenfaa
open Go.RowKit Go.Rw Hdr
theorem vrounds_nat (key iv msk : List UInt8) (hk : key.length = 16) (hiv : iv.length = 12) (hmk : msk.length = 16) (lg : Bool) (kind : Int) (ver : Nat) (dst src tok : List UInt8) (sp ph : Bool) (num : Nat) (nl : Int) (text : List UInt8) (at0 : Int) (by0 : UInt8) (hver : ver < 4294967296) (hn : num < 18446744073709551616) (vd vs vt vx : Value) (w : World) (hsd : Sl w vd dst) (hss : Sl w vs src) (hst : Sl w vt tok) (hsx : Sl w vx text) :
  Calls Try.prog 4 #[.agg (bvs (ksB key iv msk)), .agg (hvA lg kind ver vd vs vt sp ph num nl), vx, .int .i64 at0, .int .u8 (n8 by0 : Nat)] w fun e w' => e = .returned (.bool true) ∧ Below w.heap.size w w' := by
 have h := vrounds_any key iv msk hk hiv hmk lg kind ver dst src tok sp ph (UInt64.ofNat num) nl text at0 by0 hver vd vs vt vx w hsd hss hst hsx
 rw [n64_ofNat num hn] at h
 exact h
open Go.ChangeShapes Go.WideShapes Go.ChangeAt
namespace vaultRoundsP
theorem own : ownKnob Try.prog.godebug = none := by kernel_rfl
theorem laidOut : laidOutB Try.prog = true := by kernel_rfl
theorem readable : (Try.f4.params.toList.all fun t => Try.prog.readableRec t && decide (t < Try.prog.types.size)) = true := by kernel_rfl
set_option maxRecDepth 100000 in
theorem contract (H : Type) (enc : TypeId × Value → H) (W : World) (base : Nat) (args : Array Value) (ds gs : List (DataW H)) (before : List MemPlace)
  (hval : ∀ (j : Nat) t v, Try.f4.params[j]? = some t → args[j]? = some v → Value.okWide Try.prog W .any base t v)
  (hW : DataW.Whole enc Try.prog Try.f4.params.toList Rows.vaultRoundsSpec.vars false W args.toList ds gs before) :
  Calls Try.prog 4 args W fun e W' => ∃ v, e = .returned v ∧ Rows.vaultRoundsSpec.post enc Try.prog Try.f4 false true false false W args v W' := by
 have hW' := hW
 obtain ⟨p, q, hA0, hV, rfl, hfz, hnd⟩ := hW
 have hA : DataW.TrodAll enc Try.prog W 0 (fun _ => true) true Try.f4.params.toList args.toList ds p := hA0
 rw [Try.params4] at hA hval
 obtain ⟨v0, vs0, d0, ds0, p0, q0, hargs, rfl, rfl, h0, r0⟩ := trodAll_cons hA
 obtain ⟨v1, vs1, d1, ds1, p1, q1, rfl, rfl, rfl, h1, r1⟩ := trodAll_cons r0
 obtain ⟨v2, vs2, d2, ds2, p2, q2, rfl, rfl, rfl, h2, r2⟩ := trodAll_cons r1
 obtain ⟨v3, vs3, d3, ds3, p3, q3, rfl, rfl, rfl, h3, r3⟩ := trodAll_cons r2
 obtain ⟨v4, vs4, d4, ds4, p4, q4, rfl, rfl, rfl, h4, r4⟩ := trodAll_cons r3
 obtain ⟨rfl, rfl, rfl⟩ := trodAll_nil r4
 obtain rfl : args = #[v0, v1, v2, v3, v4] := by cases args; simp_all
 obtain ⟨k_k, k_i, k_m, k_h1, k_h2, k_h3, rfl⟩ := open_keys (hval 0 25 v0 rfl rfl)
 obtain ⟨h_lg, h_kind, h_ver, h_dst, h_src, h_tok, h_vd, h_vs, h_vt, h_sp, h_ph, h_num, h_nl, rfl, h_sd, h_ss, h_st, h_hv, h_hn⟩ := open_header (hval 1 30 v1 rfl rfl) h1
 obtain ⟨text, h_text⟩ := Law.open_slice Try.underlying27 Try.underlying5 (by kernel_rfl) (hval 2 27 v2 rfl rfl) h2
 obtain ⟨at_, rfl, _, _⟩ := Law.open_i64 Try.underlying3 (hval 3 3 v3 rfl rfl)
 obtain ⟨by_, rfl⟩ := Law.open_u8 Try.underlying5 (hval 4 5 v4 rfl rfl)
 refine (vrounds_nat k_k k_i k_m k_h1 k_h2 k_h3 h_lg h_kind h_ver h_dst h_src h_tok h_sp h_ph h_num h_nl text at_ by_ h_hv h_hn h_vd h_vs h_vt v2 W h_sd h_ss h_st h_text).mono fun e W' ⟨he, hb⟩ => ?_
 subst he
 exact ⟨_, rfl, Law.post_of_law laidOut readable hW' rfl hb rfl Try.underlying4 rfl rfl rfl⟩
set_option maxRecDepth 100000 in
theorem lifted (os : Os) (started : os.Started) (H : Type) (enc : TypeId × Value → H) :
  ReturnsInHanded {} Try.checked os 4 .any (Rows.vaultRoundsSpec.pre6 enc Try.prog Try.f4 Rows.vaultRoundsRow.domain false) (Rows.vaultRoundsSpec.post enc Try.prog Try.f4 false true false false) := by
 refine returnsInHanded_of_change (C := Try.checked) own started (by kernel_rfl) Try.func4
  (ChangeSpec.witness6 (enc := enc) (C := Try.checked) false ⟨#[], #[.agg #[.int .u8 0, .int .u8 0, .int .u8 0, .int .u8 0, .int .u8 0, .int .u8 0, .int .u8 0, .int .u8 0, .int .u8 0, .int .u8 0, .int .u8 0, .int .u8 0, .int .u8 0, .int .u8 0, .int .u8 0, .int .u8 0, .int .u8 0, .int .u8 0, .int .u8 0, .int .u8 0, .int .u8 0, .int .u8 0, .int .u8 0, .int .u8 0, .int .u8 0, .int .u8 0, .int .u8 0, .int .u8 0, .int .u8 0, .int .u8 0, .int .u8 0, .int .u8 0, .int .u8 0, .int .u8 0, .int .u8 0, .int .u8 0, .int .u8 0, .int .u8 0, .int .u8 0, .int .u8 0, .int .u8 0, .int .u8 0, .int .u8 0, .int .u8 0], .agg #[.bool false, .int .i64 0, .int .u32 0, .slice none 0 0, .slice none 0 0, .slice none 0 0, .bool false, .bool false, .int .u64 0, .int .i64 0], .slice none 0 0, .int .i64 0, .int .u8 0], []⟩ 8 (by kernel_rfl) (by kernel_rfl) (by kernel_rfl) (by kernel_rfl)) ?_
 intro W base args ds gs before hval hW _ _
 exact contract H enc W base args ds gs before hval hW
theorem said : Rows.VaultRoundsSaid :=
 OpenClaim.holds_of_wide 4 Try.f4 rfl rfl rfl rfl rfl rfl rfl ⟨rfl, rfl, rfl, rfl, rfl⟩ rfl rfl rfl rfl rfl (by kernel_rfl) Try.func4 (by kernel_rfl)
  (of_decide_eq_true (by kernel_rfl)) (by unfold Func.isWrapper; first | (rw [if_pos (by decide +kernel)]; kernel_rfl) | (rw [if_neg (by decide +kernel)]; exact ⟨rfl, rfl⟩))
  (fun os started H enc _ => lifted os started H enc)
end vaultRoundsP
end Go.Proofs.Ytjlpppnpdgenfaa
