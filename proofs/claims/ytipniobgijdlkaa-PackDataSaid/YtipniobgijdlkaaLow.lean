/- What the laws share: Low. -/
import Derived.Test.YtipniobgijdlkaaRows
import Derived.Test.YtipniobgijdlkaaLibR
import Derived.Test.YtipniobgijdlkaaLaw
namespace Go.Proofs.Ytipniobgijdlkaa
open Go.RowKit Go.Rw
/-- A number made small: closed to simp. -/
def low (x : Int) (n : Nat) : Nat := (IntKind.u64.wrap x).toNat % n
theorem low_lt (x : Int) (n : Nat) (h : 0 < n) : low x n < n := Nat.mod_lt _ h
theorem u64_nonneg (x : Int) : 0 ≤ IntKind.u64.wrap x ∧ IntKind.u64.wrap x ≤ 18446744073709551615 := by
  simp [IntKind.wrap, IntKind.bits, IntKind.signed]; omega
set_option maxHeartbeats 400000 in
theorem low_any (x : Int) (n : Nat) (h0 : 0 < n) (h1 : (n : Int) ≤ 9223372036854775807) (w : World) :
    Calls Try.prog 17 #[.int .i64 x, .int .i64 (n : Nat)] w fun e w' => e = .returned (.int .i64 (low x n : Nat)) ∧ w = w' := by
  have e1 : IntKind.u64.wrap (n : Int) = n := IntWalk.u64_in _ (by omega)
  obtain ⟨u, hu⟩ : ∃ u : Nat, IntKind.u64.wrap x = (u : Int) := ⟨(IntKind.u64.wrap x).toNat, by have := (u64_nonneg x).1; omega⟩
  have hl : low x n = u % n := by unfold low; rw [hu]; simp
  have hlt := low_lt x n h0
  have hv : wrap64 ((u : Int) % (n : Int)) = ((low x n : Nat) : Int) := by
    rw [show (u : Int) % (n : Int) = ((low x n : Nat) : Int) by rw [hl]; rfl]
    exact IntWalk.wrap64_in _ (by omega)
  have HV := Lib.hid hv
  clear hv
  have E1 := Lib.hid e1
  clear e1
  have hc1 : ∀ W : World, (Go.convert 3 69 (.int .i64 x)).run Try.prog W = .ok (.int .u64 (u : Nat)) W := fun W => by
    simp [Go.convert, go_sem, Conv.intToInt, hu]
  have hc2 : ∀ W : World, (Go.convert 3 69 (.int .i64 (n : Nat))).run Try.prog W = .ok (.int .u64 (n : Nat)) W := fun W => by
    simp [Go.convert, go_sem, Conv.intToInt, E1.out]
  clear hu hl
  go_enter Try.func17, Try.ntmps17
  go_wp2
  go_ret
  exact ⟨congrArg (fun z => Ending.returned (.int .i64 z)) HV.out, rfl⟩
end Go.Proofs.Ytipniobgijdlkaa
