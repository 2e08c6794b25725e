/- Law; Low; HdrRo. -/
import Derived.ProofKit
import Derived.JoinedCond
import Derived.OpenShut
import Derived.OpenVars
import Derived.Test.YthjbmggpleliaaaGreatDoorMhb1
import Derived.Test.YthjbmggpleliaaaGreatDoorRows
import Derived.Test.YthjbmggpleliaaaGreatDoorMhb2
import Derived.Test.YthjbmggpleliaaaGreatDoorMhb15
import Derived.Test.YthjbmggpleliaaaGreatDoorMhb13
import Derived.Test.YthjbmggpleliaaaGreatDoorMhb18
import Derived.Test.YthjbmggpleliaaaGreatDoorMhb17
import Derived.Test.YthjbmggpleliaaaGreatDoorMhbHdrP
import Derived.Test.YthjbmggpleliaaaGreatDoorMhb16
import Derived.Test.YthjbmggpleliaaaGreatDoorMhb21
import Derived.Test.YthjbmggpleliaaaGreatDoorMhbLibZ
section
namespace Go.Law
open Go Go.RowKit Go.ChangeShapes Go.WideShapes Go.ChangeAt Go.Rw
section
variable {P : Program} {H : Type} {enc : TypeId × Value → H}
theorem trodAll_below (hl : laidOutB P = true) {W W' : World} (hb : Below W.heap.size W W') :
  ∀ {ts : List TypeId} {vs : List Value} {ds : List (DataW H)} {ps : List MemPlace}, (ts.all fun t => P.readableRec t && decide (t < P.types.size)) = true →
   DataW.TrodAll enc P W 0 (fun _ => true) true ts vs ds ps → DataW.TrodAll enc P W' 0 (fun b => decide (b < W.heap.size)) true ts vs ds ps
 | [], [], [], _, _, h => h
 | t :: ts, v :: vs, d :: ds, ps, hr, h => by
  have hlt := DataW.TrodAll.lt h
  obtain ⟨p, q, h1, h2, rfl⟩ := h
  simp only [List.all_cons, Bool.and_eq_true, decide_eq_true_eq] at hr
  exact ⟨p, q, Below.trod hl hr.1.1 hr.1.2 h1 hb (fun x hx => hlt x (by simp [hx])), trodAll_below hl hb hr.2 h2, rfl⟩
 | [], [], _ :: _, _, _, h => h.elim
 | [], _ :: _, _, _, _, h => by cases h
 | _ :: _, [], _, _, _, h => by cases h
 | _ :: _, _ :: _, [], _, _, h => h.elim
theorem post_of_law {f : Func} {s : ChangeSpec} {W W' : World} {args : Array Value} {ds gs : List (DataW H)} {before : List MemPlace} {tb : TypeId}
  (hl : laidOutB P = true) (hr : (f.params.toList.all fun t => P.readableRec t && decide (t < P.types.size)) = true)
  (hW : DataW.Whole enc P f.params.toList s.vars false W args.toList ds gs before) (hv : s.vars = []) (hb : Below W.heap.size W W')
  (hf : f.resultTypes = #[tb]) (hu : P.underlying tb = some .bool)
  (h1 : (s.fn H ds).results = [.lit (.bool true)]) (h2 : (s.fn H ds).args = ds) (h3 : (s.fn H ds).vars = []) :
  s.post enc P f false true false false W args (.bool true) W' := by
 have hW' := hW
 obtain ⟨p, q, hA, hV, rfl, hfz, hnd⟩ := hW
 rw [hv] at hV
 obtain ⟨rfl, rfl⟩ := trodVars_none hV
 refine ⟨ds, [], p ++ [], [], p, [], hW', ?_, ?_, ?_, hb.frame _, fun h => by cases h⟩
 ·rw [List.append_nil, h1, hf]
  exact trodAll_cons_mk (shut_bool hu true) trodAll_mk0
 ·rw [List.append_nil, h2]
  exact trodAll_below hl hb hr hA
 ·rw [List.append_nil, h3, hv]; rfl
theorem open_i64 {w : World} {r : Reach} {base : Nat} {t : TypeId} {v : Value} (hu : P.underlying t = some (.int .i64)) (h : Value.okWide P w r base t v) : ∃ x : Int, v = .int .i64 x ∧ -9223372036854775808 ≤ x ∧ x ≤ 9223372036854775807 := by
 simp only [Value.okWide, hu, Cell.okWide, Cell.ok] at h
 cases v <;> simp at h
 rename_i k x
 obtain ⟨rfl, hwf⟩ := h
 have hx : -9223372036854775808 ≤ x ∧ x ≤ 9223372036854775807 := by simpa [IntKind.has, IntKind.min, IntKind.max, IntKind.signed, IntKind.bits] using hwf
 exact ⟨x, rfl, hx⟩
end
end Go.Law

end
section
namespace Go.Proofs.YthjbmggpleliaaaGreatDoor
open Go.RowKit Go.Rw
def low (x : Int) (n : Nat) : Nat := (IntKind.u64.wrap x).toNat % n
theorem low_lt (x : Int) (n : Nat) (h : 0 < n) : low x n < n := Nat.mod_lt _ h
theorem u64_nonneg (x : Int) : 0 ≤ IntKind.u64.wrap x ∧ IntKind.u64.wrap x ≤ 18446744073709551615 := by
 simp [IntKind.wrap, IntKind.bits, IntKind.signed]; omega
set_option maxHeartbeats 400000 in
theorem low_any (x : Int) (n : Nat) (h0 : 0 < n) (h1 : (n : Int) ≤ 9223372036854775807) (w : World) :
  Calls Tryz.prog 7 #[.int .i64 x, .int .i64 (n : Nat)] w fun e w' => e = .returned (.int .i64 (low x n : Nat)) ∧ w = w' := by
 have e1 : IntKind.u64.wrap (n : Int) = n := IntWalk.u64_in _ (by omega)
 obtain ⟨u, hu⟩ : ∃ u : Nat, IntKind.u64.wrap x = (u : Int) := ⟨(IntKind.u64.wrap x).toNat, by have := (u64_nonneg x).1; omega⟩
 have hl : low x n = u % n := by unfold low; rw [hu]; simp
 have hlt := low_lt x n h0
 have hv : wrap64 ((u : Int) % (n : Int)) = ((low x n : Nat) : Int) := by
  rw [show (u : Int) % (n : Int) = ((low x n : Nat) : Int) by rw [hl]; rfl]
  exact IntWalk.wrap64_in _ (by omega)
 have HV := Lib.hid hv
 clear hv
 have E1 := Lib.hid e1
 clear e1
 have hc1 : ∀ W : World, (Go.convert 3 51 (.int .i64 x)).run Tryz.prog W = .ok (.int .u64 (u : Nat)) W := fun W => by
  simp [Go.convert, go_sem, Conv.intToInt, hu]
 have hc2 : ∀ W : World, (Go.convert 3 51 (.int .i64 (n : Nat))).run Tryz.prog W = .ok (.int .u64 (n : Nat)) W := fun W => by
  simp [Go.convert, go_sem, Conv.intToInt, E1.out]
 clear hu hl
 go_enter Tryz.func7, Tryz.ntmps7
 go_wp2
 go_ret
 exact ⟨congrArg (fun z => Ending.returned (.int .i64 z)) HV.out, rfl⟩
end Go.Proofs.YthjbmggpleliaaaGreatDoor

end
section


end
