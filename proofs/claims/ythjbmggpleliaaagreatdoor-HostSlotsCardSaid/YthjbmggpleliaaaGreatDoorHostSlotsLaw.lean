/- The statement HostSlots holds: a client that connects sends at its slots, and at none else, datagrams of one size, though nobody answers; a server that nobody met sends none. The package variables are as the program's text lays them; no other condition. -/
import Derived.Test.YthjbmggpleliaaaGreatDoorMhs0
import Derived.Test.YthjbmggpleliaaaGreatDoorMhb49
import Derived.Test.YthjbmggpleliaaaGreatDoorCards
import Derived.Test.YthjbmggpleliaaaGreatDoorTie
import Derived.ProofKit
import Derived.SevenTiedAt
open Go.ChangeShapes Go.WideShapes Go.ChangeAt
namespace Go.Proofs.YthjbmggpleliaaaGreatDoor
namespace hostSlotsP
open Go Go.RowKit Go.Rw Aes Hdr Vlt Hst
theorem own : ownKnob Tryz.prog.godebug = none := by kernel_rfl
theorem laidOut : laidOutB Tryz.prog = true := by kernel_rfl
theorem readable : (Tryz.f3.params.toList.all fun t => Tryz.prog.readableRec t && decide (t < Tryz.prog.types.size)) = true := by kernel_rfl
set_option maxRecDepth 100000 in
theorem door_met (os : Os) (args : Array Value) : laidMetH Tryz.prog [("mantilla/sha.first", Rows.laid_mantilla_sha_first), ("mantilla/sha.rounds", Rows.laid_mantilla_sha_rounds), ("mantilla/letter.buckets", Rows.laid_mantilla_letter_buckets)] ((World.doorLaid Tryz.prog 24 os).forCall (fun _ _ => 0) ⟨#[], args, []⟩).memory :=
 laidMetH_of_parts3 (fuel := 8) (laidMet_of_run' 8 (by kernel_rfl) (by kernel_rfl)) (by kernel_rfl) (by kernel_rfl)
set_option maxRecDepth 100000 in
theorem lifted (os : Os) (started : os.Started) (H : Type) (enc : TypeId × Value → H) :
  ReturnsInHanded {} Tryz.checked os 3 .any (fun w args => (Rows.hostSlotsSpec.pre enc Tryz.prog Tryz.f3 [] false w args ∧ laidMetH Tryz.prog [("mantilla/sha.first", Rows.laid_mantilla_sha_first), ("mantilla/sha.rounds", Rows.laid_mantilla_sha_rounds), ("mantilla/letter.buckets", Rows.laid_mantilla_letter_buckets)] w) ∧ sizedMet enc Tryz.prog Tryz.f3 (OpenSpec.ofChange Rows.hostSlotsSpec) false w args)
   (Rows.hostSlotsSpec.post enc Tryz.prog Tryz.f3 false true false false) := by
 refine returnsInHanded_of_change_and (C := Tryz.checked) (X := fun w _ => laidMetH Tryz.prog [("mantilla/sha.first", Rows.laid_mantilla_sha_first), ("mantilla/sha.rounds", Rows.laid_mantilla_sha_rounds), ("mantilla/letter.buckets", Rows.laid_mantilla_letter_buckets)] w) (fun _ _ _ hh h => h.of_heap hh) own started (by kernel_rfl) Tryz.func3
  (ChangeSpec.witness_shaped (enc := enc) (C := Tryz.checked) (os := os) (X := fun w _ => laidMetH Tryz.prog [("mantilla/sha.first", Rows.laid_mantilla_sha_first), ("mantilla/sha.rounds", Rows.laid_mantilla_sha_rounds), ("mantilla/letter.buckets", Rows.laid_mantilla_letter_buckets)] w) false (World.doorLaid Tryz.prog 24 os) #[.agg #[.slice none 0 0, .bool false, .slice none 0 0, .slice none 0 0], .int .i64 0, .slice none 0 0] 8 rfl (World.shaped_of_RefB (by kernel_rfl) (by kernel_rfl)) (by kernel_rfl) (by kernel_rfl) (by kernel_rfl) (door_met os _)) ?_
 intro W base args ds gs before hval0 hW _ _ hL _
 have hval : ∀ (j : Nat) t v, Tryz.f3.params[j]? = some t → args[j]? = some v → Value.okWide Tryz.prog W .any base t v := hval0
 have hW' := hW
 obtain ⟨p, q, hA0, hV, rfl, hfz, hnd⟩ := hW
 have hA : DataW.TrodAll enc Tryz.prog W 0 (fun _ => true) true Tryz.f3.params.toList args.toList ds p := hA0
 rw [Tryz.params3] at hA hval
 obtain ⟨v0, vs0, d0, ds0, p0, q0, hargs, rfl, rfl, h0, r0⟩ := trodAll_cons hA
 obtain ⟨v1, vs1, d1, ds1, p1, q1, rfl, rfl, rfl, h1, r1⟩ := trodAll_cons r0
 obtain ⟨v2, vs2, d2, ds2, p2, q2, rfl, rfl, rfl, h2, r2⟩ := trodAll_cons r1
 obtain ⟨rfl, rfl, rfl⟩ := trodAll_nil r2
 obtain rfl : args = #[v0, v1, v2] := by cases args; simp_all
 obtain ⟨K, T, O, sv, tv, ov, ideal, rfl, hs, ht, ho⟩ := open_config (hval 0 24 v0 rfl rfl) h0
 obtain ⟨a, rfl, _, _⟩ := Law.open_i64 Tryz.underlying3 (hval 1 3 v1 rfl rfl)
 obtain ⟨ks, hk⟩ := Law.open_islice Tryz.underlying25 Tryz.underlying3 (by kernel_rfl) (hval 2 25 v2 rfl rfl) h2
 refine (slotsLaw_any K T O sv tv ov ideal a ks v2 W hs ht ho hk (glob_of_laid hL)).mono fun e W' ⟨he, hb⟩ => ?_
 subst he
 exact ⟨_, rfl, Law.post_of_law laidOut readable hW' rfl hb rfl Tryz.underlying4 rfl rfl rfl⟩
theorem bare : Rows.HostSlotsSaid :=
 OpenClaim.holds_of_wide 3 Tryz.f3 rfl rfl rfl rfl rfl rfl rfl ⟨rfl, rfl, rfl, rfl, rfl⟩ rfl rfl rfl rfl rfl (by kernel_rfl) Tryz.func3 (by kernel_rfl)
  (of_decide_eq_true (by kernel_rfl)) (by unfold Func.isWrapper; first | (rw [if_pos (by decide +kernel)]; kernel_rfl) | (rw [if_neg (by decide +kernel)]; exact ⟨rfl, rfl⟩))
  (fun os started H enc _ => lifted os started H enc)
theorem said : Rows.HostSlotsCardSaid :=
 Claim7.holds_tied_plain_at .later [] [.data, .data, .widerDeep] true Rows.hostSlotsCard.stood.harness Rows.hostSlotsCard.stood.looks
  bare (fun _ h => by cases h) (by kernel_rfl) (fun _ h => by cases h) hostSlots_row_tie rfl ⟨rfl, rfl⟩ (by kernel_rfl) rfl
  (fun f fn hf hfn => by
   obtain rfl : f = 3 := Option.some.inj ((show Tryz.prog.funcNamed "mantilla/mantillalaw25.HostSlots" = some 3 by kernel_rfl).symm.trans hf) |>.symm
   obtain rfl : fn = Tryz.f3 := (Option.some.inj (Tryz.func3.symm.trans hfn)).symm
   exact ⟨by kernel_rfl, fun j t ht => by
    rw [Tryz.params3] at ht
    have hm : t ∈ [24, 3, 25] := by simpa using Array.mem_of_getElem? ht
    have hall : ([24, 3, 25].all fun u => !Tryz.prog.wantsStandIn u) = true := by kernel_rfl
    exact (show Tryz.prog.wantsStandIn t = false by simpa using List.all_eq_true.1 hall t hm)⟩)
  (by kernel_rfl)
#print axioms said
end hostSlotsP
end Go.Proofs.YthjbmggpleliaaaGreatDoor
