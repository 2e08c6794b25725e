/- The walk of package header's May, and the document's, at any header. -/
import Derived.Test.YthjbmggpleliaaaGreatDoorMhb16
import Derived.Test.YthjbmggpleliaaaGreatDoorMhb13
namespace Hdr
open Go.Rw
def may (h : Hd) : Bool :=
 if h.nl < 1 ∨ 4 < h.nl ∨ 4611686018427387903 < h.num ∨ h.dst.length ≠ 8 then false
 else if h.long = false then decide (h.kind = 0 ∧ h.ver = 0 ∧ h.src.length = 0 ∧ h.tok.length = 0)
 else decide ((h.kind = 0 ∨ (h.kind = 2 ∧ h.tok.length = 0)) ∧ h.src.length ≤ 20 ∧ h.tok.length ≤ 100 ∧ h.spin = false ∧ h.phase = false)
def mayN (long : Bool) (kind : Int) (ver : Nat) (dl sl tl : Nat) (spin phase : Bool) (num : Nat) (nl : Int) : Bool :=
 if nl < 1 ∨ 4 < nl ∨ 4611686018427387903 < num ∨ dl ≠ 8 then false
 else if long = false then decide (kind = 0 ∧ ver = 0 ∧ sl = 0 ∧ tl = 0)
 else decide ((kind = 0 ∨ (kind = 2 ∧ tl = 0)) ∧ sl ≤ 20 ∧ tl ≤ 100 ∧ spin = false ∧ phase = false)
theorem may_eq (h : Hd) : may h = mayN h.long h.kind h.ver h.dst.length h.src.length h.tok.length h.spin h.phase h.num h.nl := rfl
end Hdr
namespace Go.Proofs.YthjbmggpleliaaaGreatDoor
open Go.RowKit Go.Rw Hdr
set_option maxRecDepth 100000 in
set_option maxHeartbeats 4000000 in
theorem may_any (long : Bool) (kind : Int) (ver : Nat) (ad as_ at_ : Option Addr) (dl sl tl cd cs ct : Nat) (spin phase : Bool) (num : Nat) (nl : Int) (w : World) :
  Calls Tryz.prog 121 #[.agg (hvA long kind ver (.slice ad dl cd) (.slice as_ sl cs) (.slice at_ tl ct) spin phase num nl)] w fun e w' => e = .returned (.bool (mayN long kind ver dl sl tl spin phase num nl)) ∧ Below w.heap.size w w' := by
 unfold hvA
 obtain ⟨m, hm⟩ : ∃ m, mayN long kind ver dl sl tl spin phase num nl = m := ⟨_, rfl⟩
 rw [hm]
 unfold mayN at hm
 have HM := Lib.hid hm
 clear hm
 by_cases h4 : dl = 8
 ·subst h4
  cases long
  all_goals go_enter Tryz.func121, Tryz.ntmps121
  all_goals go_wp2_with fail
  all_goals go_ret
  all_goals refine ⟨?_, (Below.refl _ _).alloc (Nat.le_refl _) _⟩
  all_goals rw [← HM.out]
  all_goals refine congrArg (fun x => Ending.returned (Value.bool x)) ?_
  all_goals clear HM
  all_goals split
  all_goals try split
  all_goals first
   | contradiction
   | exact absurd trivial (by assumption)
   | rfl
   | (exfalso; omega)
   | (cases spin <;> cases phase <;> first | contradiction | (exfalso; omega) | (refine Bool.eq_iff_iff.2 ?_; simp only [decide_eq_true_eq, Bool.false_eq_true, Bool.true_eq_false, Bool.not_true, Bool.not_false, beq_iff_eq, and_true, and_false, true_iff, false_iff] <;> omega) | rfl)
   | skip
 have h4' : (((dl : Nat) : Int) != 8) = true := by simpa using (by omega : (dl : Int) ≠ 8)
 all_goals go_enter Tryz.func121, Tryz.ntmps121
 all_goals go_wp2_with fail
 all_goals go_ret
 all_goals refine ⟨?_, (Below.refl _ _).alloc (Nat.le_refl _) _⟩
 all_goals rw [← HM.out]
 all_goals refine congrArg (fun x => Ending.returned (Value.bool x)) ?_
 all_goals clear HM
 all_goals split
 all_goals try split
 all_goals first
  | contradiction
  | exact absurd trivial (by assumption)
  | rfl
  | (exfalso; omega)
  | (cases spin <;> cases phase <;> first | contradiction | (exfalso; omega) | (refine Bool.eq_iff_iff.2 ?_; simp only [decide_eq_true_eq, Bool.false_eq_true, Bool.true_eq_false, Bool.not_eq_true', Bool.not_true, Bool.not_false, beq_iff_eq, reduceCtorEq, and_true, and_false, true_and, false_and, iff_true, iff_false, true_iff, false_iff] <;> omega) | rfl)
  | skip
end Go.Proofs.YthjbmggpleliaaaGreatDoor
