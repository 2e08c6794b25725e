/- The walk of mantillaref7's May at a stream's frame. -/
import Derived.Test.YtipniobgijdlkaaFrmR
namespace Go.Proofs.Ytipniobgijdlkaa
open Go.RowKit Go.Rw Frm Hdr
attribute [local go_sem ↓] ldFF stFF alFF ldH stH alH bdH
attribute [local go_sem] rldFF rstFF ralFF rldH rstH ralH setRow_alloc_at setRow_alloc_past setRow_drew
theorem fvA_g0 (k : Int) (n d : Nat) (vr : Value) (i o : Nat) (fin : Bool) (vd vc vt : Value) (h : 0 < (fvA k n d vr i o fin vd vc vt).size) : (fvA k n d vr i o fin vd vc vt)[0]'h = .int .i64 k := rfl
theorem fvA_g1 (k : Int) (n d : Nat) (vr : Value) (i o : Nat) (fin : Bool) (vd vc vt : Value) (h : 1 < (fvA k n d vr i o fin vd vc vt).size) : (fvA k n d vr i o fin vd vc vt)[1]'h = .int .u64 n := rfl
theorem fvA_g2 (k : Int) (n d : Nat) (vr : Value) (i o : Nat) (fin : Bool) (vd vc vt : Value) (h : 2 < (fvA k n d vr i o fin vd vc vt).size) : (fvA k n d vr i o fin vd vc vt)[2]'h = .int .u64 d := rfl
theorem fvA_g3 (k : Int) (n d : Nat) (vr : Value) (i o : Nat) (fin : Bool) (vd vc vt : Value) (h : 3 < (fvA k n d vr i o fin vd vc vt).size) : (fvA k n d vr i o fin vd vc vt)[3]'h = vr := rfl
theorem fvA_g4 (k : Int) (n d : Nat) (vr : Value) (i o : Nat) (fin : Bool) (vd vc vt : Value) (h : 4 < (fvA k n d vr i o fin vd vc vt).size) : (fvA k n d vr i o fin vd vc vt)[4]'h = .int .u64 i := rfl
theorem fvA_g5 (k : Int) (n d : Nat) (vr : Value) (i o : Nat) (fin : Bool) (vd vc vt : Value) (h : 5 < (fvA k n d vr i o fin vd vc vt).size) : (fvA k n d vr i o fin vd vc vt)[5]'h = .int .u64 o := rfl
theorem fvA_g6 (k : Int) (n d : Nat) (vr : Value) (i o : Nat) (fin : Bool) (vd vc vt : Value) (h : 6 < (fvA k n d vr i o fin vd vc vt).size) : (fvA k n d vr i o fin vd vc vt)[6]'h = .bool fin := rfl
theorem fvA_g7 (k : Int) (n d : Nat) (vr : Value) (i o : Nat) (fin : Bool) (vd vc vt : Value) (h : 7 < (fvA k n d vr i o fin vd vc vt).size) : (fvA k n d vr i o fin vd vc vt)[7]'h = vd := rfl
theorem fvA_g8 (k : Int) (n d : Nat) (vr : Value) (i o : Nat) (fin : Bool) (vd vc vt : Value) (h : 8 < (fvA k n d vr i o fin vd vc vt).size) : (fvA k n d vr i o fin vd vc vt)[8]'h = vc := rfl
theorem fvA_g9 (k : Int) (n d : Nat) (vr : Value) (i o : Nat) (fin : Bool) (vd vc vt : Value) (h : 9 < (fvA k n d vr i o fin vd vc vt).size) : (fvA k n d vr i o fin vd vc vt)[9]'h = vt := rfl
theorem fvA_s5 (k : Int) (n d : Nat) (vr : Value) (i o : Nat) (fin : Bool) (vd vc vt : Value) : (fvA k n d vr i o fin vd vc vt).setIfInBounds 5 (.int .u64 0) = fvA k n d vr i 0 fin vd vc vt := rfl
theorem fvA_s4 (k : Int) (n d : Nat) (vr : Value) (i o : Nat) (fin : Bool) (vd vc vt : Value) : (fvA k n d vr i o fin vd vc vt).setIfInBounds 4 (.int .u64 0) = fvA k n d vr 0 o fin vd vc vt := rfl
theorem fvA_s6 (k : Int) (n d : Nat) (vr : Value) (i o : Nat) (fin : Bool) (vd vc vt : Value) : (fvA k n d vr i o fin vd vc vt).setIfInBounds 6 (.bool false) = fvA k n d vr i o false vd vc vt := rfl
theorem fvA_s7 (k : Int) (n d : Nat) (vr : Value) (i o : Nat) (fin : Bool) (vd vc vt : Value) : (fvA k n d vr i o fin vd vc vt).setIfInBounds 7 (.slice none 0 0) = fvA k n d vr i o fin (.slice none 0 0) vc vt := rfl
theorem fvA_set (k : Int) (n d : Nat) (vr : Value) (i o : Nat) (fin : Bool) (vd vc vt : Value) :
    ((((fvA k n d vr i o fin vd vc vt).setIfInBounds 5 (.int .u64 0)).setIfInBounds 7 (.slice none 0 0)).setIfInBounds 4 (.int .u64 0)).setIfInBounds 6 (.bool false) = fvA k n d vr 0 0 false (.slice none 0 0) vc vt := rfl
set_option maxRecDepth 400000 in
set_option maxHeartbeats 2000000 in
theorem rmay_stream (i o nd : Nat) (fin : Bool) (a2 : Option Addr) (e2 : Nat) (w : World) :
    Calls Try.prog 15 #[.agg (fvA 8 0 0 (.slice none 0 0) i o fin (.slice a2 nd e2) (.slice none 0 0) (.slice none 0 0))] w fun e w' => e = .returned (.bool (decide (nd < 16384 ∧ i < 4611686018427387904 ∧ o + nd < 4611686018427387904))) ∧ Below w.heap.size w w' := by
  have hS := fvA_set 8 0 0 (.slice none 0 0) i o fin (.slice a2 nd e2) (.slice none 0 0) (.slice none 0 0)
  have hz : (fvA 8 0 0 (.slice none 0 0) i o fin (.slice a2 nd e2) (.slice none 0 0) (.slice none 0 0)).size = 10 := rfl
  have hzG : (fvA 8 0 0 (.slice none 0 0) 0 0 false (.slice none 0 0) (.slice none 0 0) (.slice none 0 0)).size = 10 := rfl
  have ha := fvA_all 8 0 0 none a2 none none 0 nd 0 0 0 e2 0 0 i o fin
  have g0 := fvA_g0 8 0 0 (.slice none 0 0) i o fin (.slice a2 nd e2) (.slice none 0 0) (.slice none 0 0)
  have g4 := fvA_g4 8 0 0 (.slice none 0 0) i o fin (.slice a2 nd e2) (.slice none 0 0) (.slice none 0 0)
  have g5 := fvA_g5 8 0 0 (.slice none 0 0) i o fin (.slice a2 nd e2) (.slice none 0 0) (.slice none 0 0)
  have g7 := fvA_g7 8 0 0 (.slice none 0 0) i o fin (.slice a2 nd e2) (.slice none 0 0) (.slice none 0 0)
  have hp := fun W => plain_any 8 0 0 0 0 false none none none none 0 0 0 0 0 0 0 0 W
  generalize fvA 8 0 0 (.slice none 0 0) i o fin (.slice a2 nd e2) (.slice none 0 0) (.slice none 0 0) = F at *
  generalize hGG : fvA 8 0 0 (.slice none 0 0) 0 0 false (.slice none 0 0) (.slice none 0 0) (.slice none 0 0) = G at *
  have lf := rldFF (w.alloc (.cells F 28)) w.heap.size (by rw [row?_alloc_at _ _ _ _ rfl, Option.map_some, hz])
  rw [row?_alloc_at _ _ _ _ rfl] at lf
  have lf' : (loadAgg 28 (.pointer (some ⟨w.heap.size, 0, none⟩))).run Try.prog (w.alloc (.cells F 28)) = .ok (.agg F) (w.alloc (.cells F 28)) := lf
  have lg := rldFF ((w.alloc (.cells F 28)).alloc (.cells G 28)) (w.heap.size + 1) (by rw [row?_alloc_at _ _ _ _ (by simp), Option.map_some, hzG])
  rw [row?_alloc_at _ _ _ _ (by simp)] at lg
  have lg' : (loadAgg 28 (.pointer (some ⟨w.heap.size + 1, 0, none⟩))).run Try.prog ((w.alloc (.cells F 28)).alloc (.cells G 28)) = .ok (.agg G) ((w.alloc (.cells F 28)).alloc (.cells G 28)) := lg
  have B2 := Lib.hid (bel2 w (.cells F 28) (.cells G 28))
  have HP := Lib.hid hp
  clear lf lg hGG hp
  obtain ⟨r, hr⟩ : ∃ r, decide (nd < 16384 ∧ i < 4611686018427387904 ∧ o + nd < 4611686018427387904) = r := ⟨_, rfl⟩
  rw [hr]
  have HR := Lib.hid hr
  clear hr
  go_enter Try.func15, Try.ntmps15
  by_cases h1 : nd < 16384
  case neg =>
    go_wp2_with fail
    go_ret
    exact ⟨congrArg (fun z => Ending.returned (.bool z)) (by rw [← HR.out]; simp [h1]), B2.out⟩
  by_cases h2 : i < 4611686018427387904
  case neg =>
    go_wp2_with fail
    go_ret
    exact ⟨congrArg (fun z => Ending.returned (.bool z)) (by rw [← HR.out]; simp [h2]), B2.out⟩
  by_cases h3 : o + nd < 4611686018427387904
  case neg =>
    go_wp2_with fail
    go_ret
    exact ⟨congrArg (fun z => Ending.returned (.bool z)) (by rw [← HR.out]; simp [h3]), B2.out⟩
  go_wp2_with fail
  refine (HP.out _).mono ?_
  rw [show plainB 0 0 0 0 0 false 0 0 0 = true from rfl]
  rintro e w1 ⟨rfl, b1⟩
  have B3 := Lib.hid (B2.out.trans (b1.mono B2.out.size))
  clear b1
  go_wp2_with fail
  go_ret
  exact ⟨congrArg (fun z => Ending.returned (.bool z)) (by rw [← HR.out]; simp [h1, h2, h3]), B3.out⟩
end Go.Proofs.Ytipniobgijdlkaa
