/- The walk of GreatFrame: is a frame more than is gone through? (printed by gen_great.py) -/
import Derived.Test.YtipniobgijdlkaaMgt16
namespace Frm
open Go Go.RowKit Go.Rw Hdr
def greatB (f : Fr) : Bool := decide (12 < f.rs.length) || decide (300 < f.dat.length) || decide (30 < f.cid.length) || decide (30 < f.tok.length) || (decide (f.k = 0) && decide (400 < f.n))
end Frm
namespace Go.Proofs.Ytipniobgijdlkaa
open Go.RowKit Go.Rw Frm Hdr
attribute [local go_sem ↓] ldFF stFF alFF
attribute [local go_sem] rldFF rstFF ralFF setRow_alloc_at setRow_alloc_past setRow_drew
set_option maxHeartbeats 2000000 in
theorem great_any (f : Fr) (v : Value) (w : World) (hv : Fv w v f) :
    Calls Try.prog 18 #[v] w fun e w' => e = .returned (.bool (greatB f)) ∧ Below w.heap.size w w' := by
  obtain ⟨vr, vd, vc, vt, rfl, h1, h2, h3, h4⟩ := hv
  obtain ⟨ar, er, rfl, -, -, -⟩ := h1
  obtain ⟨ad, ed, rfl, -, -, -⟩ := h2
  obtain ⟨ac, ec, rfl, -, -, -⟩ := h3
  obtain ⟨at_, et, rfl, -, -, -⟩ := h4
  have B1 := Lib.hid (((Below.refl w.heap.size w).alloc (Nat.le_refl _) (.cells (fvA f.k f.n f.d (.slice ar f.rs.length er) f.i f.o f.fin (.slice ad f.dat.length ed) (.slice ac f.cid.length ec) (.slice at_ f.tok.length et)) 28)))
  obtain ⟨c0, c1, c2, c3, c4, c5, c6, c7, c8, c9⟩ := fv_cells (row?_alloc_at w (fvA f.k f.n f.d (.slice ar f.rs.length er) f.i f.o f.fin (.slice ad f.dat.length ed) (.slice ac f.cid.length ec) (.slice at_ f.tok.length et)) 28 w.heap.size rfl)
  generalize fvA f.k f.n f.d (.slice ar f.rs.length er) f.i f.o f.fin (.slice ad f.dat.length ed) (.slice ac f.cid.length ec) (.slice at_ f.tok.length et) = F at *
  obtain ⟨r, hr⟩ : ∃ r, greatB f = r := ⟨_, rfl⟩
  rw [hr]
  unfold greatB at hr
  generalize f.rs.length = nr at *
  generalize f.dat.length = nd at *
  generalize f.cid.length = nc at *
  generalize f.tok.length = nt at *
  generalize f.k = k at *
  generalize f.n = n at *
  clear c2 c4 c5 c6
  go_enter Try.func18, Try.ntmps18
  by_cases g0 : 12 < nr
  · have p0 : decide ((12 : Int) < (nr : Nat)) = true := decide_eq_true (by omega)
    have hr' : r = true := by rw [← hr]; simp [g0]
    have HR := Lib.hid hr'
    clear hr hr' g0
    go_wp2_with fail
    go_ret
    exact ⟨congrArg (fun z => Ending.returned (.bool z)) HR.out.symm, B1.out⟩
  have p0 : decide ((12 : Int) < (nr : Nat)) = false := decide_eq_false (by omega)
  by_cases g1 : 300 < nd
  · have p1 : decide ((300 : Int) < (nd : Nat)) = true := decide_eq_true (by omega)
    have hr' : r = true := by rw [← hr]; simp [g0, g1]
    have HR := Lib.hid hr'
    clear hr hr' g0 g1
    go_wp2_with fail
    go_ret
    exact ⟨congrArg (fun z => Ending.returned (.bool z)) HR.out.symm, B1.out⟩
  have p1 : decide ((300 : Int) < (nd : Nat)) = false := decide_eq_false (by omega)
  by_cases g2 : 30 < nc
  · have p2 : decide ((30 : Int) < (nc : Nat)) = true := decide_eq_true (by omega)
    have hr' : r = true := by rw [← hr]; simp [g0, g1, g2]
    have HR := Lib.hid hr'
    clear hr hr' g0 g1 g2
    go_wp2_with fail
    go_ret
    exact ⟨congrArg (fun z => Ending.returned (.bool z)) HR.out.symm, B1.out⟩
  have p2 : decide ((30 : Int) < (nc : Nat)) = false := decide_eq_false (by omega)
  by_cases g3 : 30 < nt
  · have p3 : decide ((30 : Int) < (nt : Nat)) = true := decide_eq_true (by omega)
    have hr' : r = true := by rw [← hr]; simp [g0, g1, g2, g3]
    have HR := Lib.hid hr'
    clear hr hr' g0 g1 g2 g3
    go_wp2_with fail
    go_ret
    exact ⟨congrArg (fun z => Ending.returned (.bool z)) HR.out.symm, B1.out⟩
  have p3 : decide ((30 : Int) < (nt : Nat)) = false := decide_eq_false (by omega)
  by_cases g4 : k = 0
  case neg =>
    have p4 : (k == 0) = false := by simpa using g4
    have hr' : r = false := by rw [← hr]; simp [g0, g1, g2, g3, g4]
    have HR := Lib.hid hr'
    clear hr hr' g0 g1 g2 g3 g4
    go_wp2_with fail
    go_ret
    exact ⟨congrArg (fun z => Ending.returned (.bool z)) HR.out.symm, B1.out⟩
  have p4 : (k == 0) = true := by simpa using g4
  by_cases g5 : 400 < n
  · have p5 : decide ((400 : Int) < (n : Nat)) = true := decide_eq_true (by omega)
    have hr' : r = true := by rw [← hr]; simp [g0, g1, g2, g3, g4, g5]
    have HR := Lib.hid hr'
    clear hr hr' g0 g1 g2 g3 g4 g5
    go_wp2_with fail
    go_ret
    exact ⟨congrArg (fun z => Ending.returned (.bool z)) HR.out.symm, B1.out⟩
  · have p5 : decide ((400 : Int) < (n : Nat)) = false := decide_eq_false (by omega)
    have hr' : r = false := by rw [← hr]; simp [g0, g1, g2, g3, g4, g5]
    have HR := Lib.hid hr'
    clear hr hr' g0 g1 g2 g3 g4 g5
    go_wp2_with fail
    go_ret
    exact ⟨congrArg (fun z => Ending.returned (.bool z)) HR.out.symm, B1.out⟩
end Go.Proofs.Ytipniobgijdlkaa
