/- The walks of package mantillaref7's plain and May. -/
import Derived.Test.YtipniobgijdlkaaPckA
namespace Frm
/-- Nothing but what its kind has. -/
def plainB (n d nr i o : Nat) (fin : Bool) (nd nc nt : Nat) : Bool :=
  decide (n = 0) && decide (d = 0) && decide (nr = 0) && decide (i = 0) && decide (o = 0) && !fin && decide (nd = 0) && decide (nc = 0) && decide (nt = 0)
end Frm
namespace Go.Proofs.Ytipniobgijdlkaa
open Go.RowKit Go.Rw Frm Hdr
attribute [local go_sem ↓] ldFF stFF alFF ldH stH alH bdH
attribute [local go_sem] rldFF rstFF ralFF rldH rstH ralH setRow_alloc_at setRow_alloc_past setRow_drew
theorem fv_cells {w : World} {b : Nat} {k : Int} {n d i o : Nat} {fin : Bool} {vr vd vc vt : Value} (h : row? w b = some (fvA k n d vr i o fin vd vc vt)) :
    w.cell? ⟨b, 0, none⟩ = some (.int .i64 k) ∧ w.cell? ⟨b, 1, none⟩ = some (.int .u64 n) ∧ w.cell? ⟨b, 2, none⟩ = some (.int .u64 d) ∧ w.cell? ⟨b, 3, none⟩ = some vr ∧ w.cell? ⟨b, 4, none⟩ = some (.int .u64 i) ∧ w.cell? ⟨b, 5, none⟩ = some (.int .u64 o) ∧ w.cell? ⟨b, 6, none⟩ = some (.bool fin) ∧ w.cell? ⟨b, 7, none⟩ = some vd ∧ w.cell? ⟨b, 8, none⟩ = some vc ∧ w.cell? ⟨b, 9, none⟩ = some vt :=
  ⟨row?_cell h 0, row?_cell h 1, row?_cell h 2, row?_cell h 3, row?_cell h 4, row?_cell h 5, row?_cell h 6, row?_cell h 7, row?_cell h 8, row?_cell h 9⟩
set_option maxHeartbeats 2000000 in
theorem plain_any (k : Int) (n d i o : Nat) (fin : Bool) (a1 a2 a3 a4 : Option Addr) (nr nd nc nt e1 e2 e3 e4 : Nat) (w : World) :
    Calls Try.prog 42 #[.agg (fvA k n d (.slice a1 nr e1) i o fin (.slice a2 nd e2) (.slice a3 nc e3) (.slice a4 nt e4))] w fun e w' => e = .returned (.bool (plainB n d nr i o fin nd nc nt)) ∧ Below w.heap.size w w' := by
  have B1 := Lib.hid (((Below.refl w.heap.size w).alloc (Nat.le_refl _) (.cells (fvA k n d (.slice a1 nr e1) i o fin (.slice a2 nd e2) (.slice a3 nc e3) (.slice a4 nt e4)) 28)))
  obtain ⟨c0, c1, c2, c3, c4, c5, c6, c7, c8, c9⟩ := fv_cells (row?_alloc_at w (fvA k n d (.slice a1 nr e1) i o fin (.slice a2 nd e2) (.slice a3 nc e3) (.slice a4 nt e4)) 28 w.heap.size rfl)
  obtain ⟨r, hr⟩ : ∃ r, plainB n d nr i o fin nd nc nt = r := ⟨_, rfl⟩
  rw [hr]
  have HR := Lib.hid hr
  clear hr
  go_enter Try.func42, Try.ntmps42
  by_cases h0 : n = 0
  case neg =>
    have q0 : ((n : Int) == 0) = false := by simpa using h0
    go_wp2_with fail
    go_ret
    exact ⟨congrArg (fun z => Ending.returned (.bool z)) (by rw [← HR.out]; simp [plainB, h0]), B1.out⟩
  subst h0
  by_cases h1 : d = 0
  case neg =>
    have q1 : ((d : Int) == 0) = false := by simpa using h1
    go_wp2_with fail
    go_ret
    exact ⟨congrArg (fun z => Ending.returned (.bool z)) (by rw [← HR.out]; simp [plainB, h1]), B1.out⟩
  subst h1
  by_cases h2 : nr = 0
  case neg =>
    have q2 : ((nr : Int) == 0) = false := by simpa using h2
    go_wp2_with fail
    go_ret
    exact ⟨congrArg (fun z => Ending.returned (.bool z)) (by rw [← HR.out]; simp [plainB, h2]), B1.out⟩
  subst h2
  by_cases h3 : i = 0
  case neg =>
    have q3 : ((i : Int) == 0) = false := by simpa using h3
    go_wp2_with fail
    go_ret
    exact ⟨congrArg (fun z => Ending.returned (.bool z)) (by rw [← HR.out]; simp [plainB, h3]), B1.out⟩
  subst h3
  by_cases h4 : o = 0
  case neg =>
    have q4 : ((o : Int) == 0) = false := by simpa using h4
    go_wp2_with fail
    go_ret
    exact ⟨congrArg (fun z => Ending.returned (.bool z)) (by rw [← HR.out]; simp [plainB, h4]), B1.out⟩
  subst h4
  cases fin
  case true =>
    go_wp2_with fail
    go_ret
    exact ⟨congrArg (fun z => Ending.returned (.bool z)) (by rw [← HR.out]; simp [plainB]), B1.out⟩
  by_cases h6 : nd = 0
  case neg =>
    have q6 : ((nd : Int) == 0) = false := by simpa using h6
    go_wp2_with fail
    go_ret
    exact ⟨congrArg (fun z => Ending.returned (.bool z)) (by rw [← HR.out]; simp [plainB, h6]), B1.out⟩
  subst h6
  by_cases h7 : nc = 0
  case neg =>
    have q7 : ((nc : Int) == 0) = false := by simpa using h7
    go_wp2_with fail
    go_ret
    exact ⟨congrArg (fun z => Ending.returned (.bool z)) (by rw [← HR.out]; simp [plainB, h7]), B1.out⟩
  subst h7
  by_cases h8 : nt = 0
  case neg =>
    have q8 : ((nt : Int) == 0) = false := by simpa using h8
    go_wp2_with fail
    go_ret
    exact ⟨congrArg (fun z => Ending.returned (.bool z)) (by rw [← HR.out]; simp [plainB, h8]), B1.out⟩
  subst h8
  go_wp2_with fail
  go_ret
  exact ⟨congrArg (fun z => Ending.returned (.bool z)) (by rw [← HR.out]; simp [plainB]), B1.out⟩
end Go.Proofs.Ytipniobgijdlkaa
