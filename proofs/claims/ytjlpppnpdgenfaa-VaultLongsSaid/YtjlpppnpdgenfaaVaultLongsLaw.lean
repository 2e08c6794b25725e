/- The statement VaultLongs holds. No condition. -/
import Derived.Test.YtjlpppnpdgenfaaMvdVltLg
import Derived.Test.YtjlpppnpdgenfaaMvbLawK
import Derived.Test.YtjlpppnpdgenfaaMvbLawN
import Derived.Test.YtjlpppnpdgenfaaMvb26
import Derived.Test.YtjlpppnpdgenfaaRows
namespace Go.Proofs.Ytjlpppnpdgenfaa
open Go.RowKit Go.Rw Hdr
theorem vlongs_nat (key iv msk : List UInt8) (hk : key.length = 16) (hiv : iv.length = 12) (hmk : msk.length = 16) (ver num : Nat) (tok text z : List UInt8) (cut0 : Int) (hv : ver < 4294967296) (hn : num < 4294967296) (vt vx vz : Value) (w : World) (hst : Sl w vt tok) (hsx : Sl w vx text) (hsz : Sl w vz z) :
  Calls Try.prog 8 #[.agg (bvs (ksB key iv msk)), .int .u32 (ver : Nat), vt, .int .u32 (num : Nat), vx, .int .i64 cut0, vz] w fun e w' => e = .returned (.bool true) ∧ Below w.heap.size w w' := by
 have h := vlongs_any key iv msk hk hiv hmk (UInt32.ofNat ver) (UInt32.ofNat num) tok text z cut0 vt vx vz w hst hsx hsz
 have e1 : (UInt32.ofNat ver).toNat = ver := by simp; omega
 have e2 : (UInt32.ofNat num).toNat = num := by simp; omega
 rw [e1, e2] at h
 exact h
open Go.ChangeShapes Go.WideShapes Go.ChangeAt
namespace vaultLongsP
theorem own : ownKnob Try.prog.godebug = none := by kernel_rfl
theorem laidOut : laidOutB Try.prog = true := by kernel_rfl
theorem readable : (Try.f8.params.toList.all fun t => Try.prog.readableRec t && decide (t < Try.prog.types.size)) = true := by kernel_rfl
set_option maxRecDepth 100000 in
theorem contract (H : Type) (enc : TypeId × Value → H) (W : World) (base : Nat) (args : Array Value) (ds gs : List (DataW H)) (before : List MemPlace)
  (hval : ∀ (j : Nat) t v, Try.f8.params[j]? = some t → args[j]? = some v → Value.okWide Try.prog W .any base t v)
  (hW : DataW.Whole enc Try.prog Try.f8.params.toList Rows.vaultLongsSpec.vars false W args.toList ds gs before) :
  Calls Try.prog 8 args W fun e W' => ∃ v, e = .returned v ∧ Rows.vaultLongsSpec.post enc Try.prog Try.f8 false true false false W args v W' := by
 have hW' := hW
 obtain ⟨p, q, hA0, hV, rfl, hfz, hnd⟩ := hW
 have hA : DataW.TrodAll enc Try.prog W 0 (fun _ => true) true Try.f8.params.toList args.toList ds p := hA0
 rw [Try.params8] at hA hval
 obtain ⟨v0, vs0, d0, ds0, p0, q0, hargs, rfl, rfl, h0, r0⟩ := trodAll_cons hA
 obtain ⟨v1, vs1, d1, ds1, p1, q1, rfl, rfl, rfl, h1, r1⟩ := trodAll_cons r0
 obtain ⟨v2, vs2, d2, ds2, p2, q2, rfl, rfl, rfl, h2, r2⟩ := trodAll_cons r1
 obtain ⟨v3, vs3, d3, ds3, p3, q3, rfl, rfl, rfl, h3, r3⟩ := trodAll_cons r2
 obtain ⟨v4, vs4, d4, ds4, p4, q4, rfl, rfl, rfl, h4, r4⟩ := trodAll_cons r3
 obtain ⟨v5, vs5, d5, ds5, p5, q5, rfl, rfl, rfl, h5, r5⟩ := trodAll_cons r4
 obtain ⟨v6, vs6, d6, ds6, p6, q6, rfl, rfl, rfl, h6, r6⟩ := trodAll_cons r5
 obtain ⟨rfl, rfl, rfl⟩ := trodAll_nil r6
 obtain rfl : args = #[v0, v1, v2, v3, v4, v5, v6] := by cases args; simp_all
 obtain ⟨k_k, k_i, k_m, k_h1, k_h2, k_h3, rfl⟩ := open_keys (hval 0 25 v0 rfl rfl)
 obtain ⟨ver, rfl, h_ver⟩ := Law.open_u32 Try.underlying26 (hval 1 26 v1 rfl rfl)
 obtain ⟨tok, h_tok⟩ := Law.open_slice Try.underlying27 Try.underlying5 (by kernel_rfl) (hval 2 27 v2 rfl rfl) h2
 obtain ⟨num, rfl, h_num⟩ := Law.open_u32 Try.underlying26 (hval 3 26 v3 rfl rfl)
 obtain ⟨text, h_text⟩ := Law.open_slice Try.underlying27 Try.underlying5 (by kernel_rfl) (hval 4 27 v4 rfl rfl) h4
 obtain ⟨cut_, rfl, _, _⟩ := Law.open_i64 Try.underlying3 (hval 5 3 v5 rfl rfl)
 obtain ⟨z, h_z⟩ := Law.open_slice Try.underlying27 Try.underlying5 (by kernel_rfl) (hval 6 27 v6 rfl rfl) h6
 refine (vlongs_nat k_k k_i k_m k_h1 k_h2 k_h3 ver num tok text z cut_ h_ver h_num v2 v4 v6 W h_tok h_text h_z).mono fun e W' ⟨he, hb⟩ => ?_
 subst he
 exact ⟨_, rfl, Law.post_of_law laidOut readable hW' rfl hb rfl Try.underlying4 rfl rfl rfl⟩
set_option maxRecDepth 100000 in
theorem lifted (os : Os) (started : os.Started) (H : Type) (enc : TypeId × Value → H) :
  ReturnsInHanded {} Try.checked os 8 .any (Rows.vaultLongsSpec.pre6 enc Try.prog Try.f8 Rows.vaultLongsRow.domain false) (Rows.vaultLongsSpec.post enc Try.prog Try.f8 false true false false) := by
 refine returnsInHanded_of_change (C := Try.checked) own started (by kernel_rfl) Try.func8
  (ChangeSpec.witness6 (enc := enc) (C := Try.checked) false ⟨#[], #[.agg #[.int .u8 0, .int .u8 0, .int .u8 0, .int .u8 0, .int .u8 0, .int .u8 0, .int .u8 0, .int .u8 0, .int .u8 0, .int .u8 0, .int .u8 0, .int .u8 0, .int .u8 0, .int .u8 0, .int .u8 0, .int .u8 0, .int .u8 0, .int .u8 0, .int .u8 0, .int .u8 0, .int .u8 0, .int .u8 0, .int .u8 0, .int .u8 0, .int .u8 0, .int .u8 0, .int .u8 0, .int .u8 0, .int .u8 0, .int .u8 0, .int .u8 0, .int .u8 0, .int .u8 0, .int .u8 0, .int .u8 0, .int .u8 0, .int .u8 0, .int .u8 0, .int .u8 0, .int .u8 0, .int .u8 0, .int .u8 0, .int .u8 0, .int .u8 0], .int .u32 0, .slice none 0 0, .int .u32 0, .slice none 0 0, .int .i64 0, .slice none 0 0], []⟩ 8 (by kernel_rfl) (by kernel_rfl) (by kernel_rfl) (by kernel_rfl)) ?_
 intro W base args ds gs before hval hW _ _
 exact contract H enc W base args ds gs before hval hW
theorem said : Rows.VaultLongsSaid :=
 OpenClaim.holds_of_wide 8 Try.f8 rfl rfl rfl rfl rfl rfl rfl ⟨rfl, rfl, rfl, rfl, rfl⟩ rfl rfl rfl rfl rfl (by kernel_rfl) Try.func8 (by kernel_rfl)
  (of_decide_eq_true (by kernel_rfl)) (by unfold Func.isWrapper; first | (rw [if_pos (by decide +kernel)]; kernel_rfl) | (rw [if_neg (by decide +kernel)]; exact ⟨rfl, rfl⟩))
  (fun os started H enc _ => lifted os started H enc)
end vaultLongsP
end Go.Proofs.Ytjlpppnpdgenfaa
