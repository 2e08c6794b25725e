/- TonW4; PckA; PckR. -/
import Derived.Test.YthjbmggpleliaaaGreatDoorMhbLibI
import Derived.Test.YthjbmggpleliaaaGreatDoorMhb23
import Derived.Test.YthjbmggpleliaaaGreatDoorMhb33
import Derived.Test.YthjbmggpleliaaaGreatDoorMhbLibZ
section


end
section
namespace Go.Proofs.YthjbmggpleliaaaGreatDoor
open Go.RowKit Go.Rw Frm Hdr
attribute [local go_sem ↓] ldFF stFF alFF
attribute [local go_sem] rldFF rstFF ralFF setRow_alloc_at setRow_alloc_past setRow_drew
theorem bare_size (k : Int) : (bare k).size = 10 := by simp [bare, fvA]
theorem bare_all (k : Int) : allOne (bare k) = true := by simp [bare, fvA, allOne, Value.oneCell']
attribute [local go_sem] bare_size bare_all
end Go.Proofs.YthjbmggpleliaaaGreatDoor

end
section
namespace Go.Proofs.YthjbmggpleliaaaGreatDoor
open Go.RowKit Go.Rw Frm Hdr
attribute [local go_sem ↓] ldFF stFF alFF ldH stH alH bdH
attribute [local go_sem] rldFF rstFF ralFF rldH rstH ralH setRow_alloc_at setRow_alloc_past setRow_drew
set_option maxHeartbeats 1000000 in
theorem room_ok (H : Array Value) (hs : H.size = 10) (n : Nat) (hn : n ≤ 1000) (m : Int) (hm : max (256 - (n : Int) - 16) 0 = m) (w : World)
  (hput : ∀ W, Below w.heap.size w W → Calls Tryz.prog 92 #[.agg H, .int .i64 16] W fun e w' => ∃ v l, e = .returned (.tuple #[v, .int .i64 0]) ∧ Sl w' v l ∧ l.length = n ∧ Below W.heap.size W w') :
  Calls Tryz.prog 65 #[.agg H] w fun e w' => e = .returned (.int .i64 m) ∧ Below w.heap.size w w' := by
 have HP := Lib.hid (hput (w.alloc (.cells H 150)) ((Below.refl _ _).alloc (Nat.le_refl _) _))
 have le := rldH (w.alloc (.cells H 150)) w.heap.size (by rw [row?_alloc_at _ _ _ _ rfl, Option.map_some, hs])
 rw [row?_alloc_at _ _ _ _ rfl] at le
 have le' : (loadAgg 150 (.pointer (some ⟨w.heap.size, 0, none⟩))).run Tryz.prog (w.alloc (.cells H 150)) = .ok (.agg H) (w.alloc (.cells H 150)) := le
 clear le hput
 go_enter Tryz.func65, Tryz.ntmps65
 go_wp2_with fail
 refine HP.out.mono ?_
 rintro e w1 ⟨v, l, rfl, hl, hln, b1⟩
 obtain ⟨ao, cap, rfl, -, -, -⟩ := hl
 rw [hln]
 have B1 := Lib.hid (((Below.refl w.heap.size w).alloc (Nat.le_refl _) (.cells H 150)).trans (b1.mono (by simp)))
 have HV := Lib.hid hm
 clear b1 le' hm
 go_wp2_with fail
 go_ret
 exact ⟨congrArg (fun z => Ending.returned (.int .i64 z)) HV.out, B1.out⟩
theorem hvA_pt (lg : Bool) (kind : Int) (ver : Nat) (vd vs vt : Value) (sp ph : Bool) (num : Nat) (nl : Int) : (hvA lg kind ver vd vs vt sp ph num nl).size = 10 := by simp [hvA]
theorem mk8 (w : World) : (Instr.makeSlice 22 (.int .i64 8) (.int .i64 8)).run Tryz.prog w = .ok (.slice (some ⟨w.heap.size, 0, none⟩) 8 8) (w.alloc (.cells (bvs (Aes.zeros 8)) 5)) := by kernel_rfl
theorem buildH39 (ao : Option Addr) (m cap : Nat) (x : Int) (w : World) : (buildP 150 #[(3, .slice ao m cap), (9, .int .i64 x)]).run Tryz.prog w = .ok (.agg (hvA false 0 0 (.slice ao m cap) (.slice none 0 0) (.slice none 0 0) false false 0 x)) w := Go.run_build w _ _ _ (by kernel_rfl)
theorem bdF (ps : Array (Nat × Value)) : Instr.build 159 ps = buildP 159 ps := rfl
theorem buildFz0 (k : Int) (w : World) : (buildP 159 #[(0, .int .i64 k)]).run Tryz.prog w = .ok (.agg (bare k)) w := Go.run_build w _ _ _ (by kernel_rfl)
attribute [local go_sem ↓] bdF
attribute [local go_sem] mk8 buildH39 buildFz0
end Go.Proofs.YthjbmggpleliaaaGreatDoor

end
