/- LibRf; HelC. -/
import Derived.Test.YthjbmggpleliaaaGreatDoorMhb2
import Derived.Test.YthjbmggpleliaaaGreatDoorMhb31
import Derived.Test.YthjbmggpleliaaaGreatDoorMhb30
section


end
section
namespace Go.Proofs.YthjbmggpleliaaaGreatDoor
open Go Go.RowKit Go.Rw Aes Hdr Vlt Hst
def helZ : Array Value := #[.bool false] ++ bvs (List.replicate 32 0) ++ #[.slice none 0 0]
def helP : List (Nat × Nat) := [(0, 1), (1, 32), (33, 1)]
theorem helZ_size : helZ.size = 34 := by kernel_rfl
theorem built210 (parts : List (Nat × Value)) : Tryz.prog.built 210 parts = Instr.fill (helP.toArray[·]?) helZ parts := by kernel_rfl
def buildHl (ps : Array (Nat × Value)) : Sem Value := Instr.build 210 ps
theorem bdHl (ps : Array (Nat × Value)) : Instr.build 210 ps = buildHl ps := rfl
theorem helA_size (b : Bool) (l : List UInt8) (ids : Value) (hl : l.length = 32) : (helA b l ids).size = 34 := by unfold helA; simp [bvs_size, hl]
set_option maxRecDepth 20000 in
theorem build210 (b : Bool) (l : List UInt8) (a : Option Addr) (n c : Nat) (hl : l.length = 32) (w : World) :
  (buildHl #[(0, .bool b), (1, .agg (bvs l)), (2, .slice a n c)]).run Tryz.prog w = .ok (.agg (helA b l (.slice a n c))) w := by
 refine Go.run_build w _ _ _ ?_
 rw [built210]
 have hs : (splice (helZ.setIfInBounds 0 (.bool b)) 1 (bvs l)).size = 34 := by rw [splice_sz (by simp [bvs_size, hl, helZ_size])]; simp [helZ_size]
 rw [fill_one (off := 0) (by kernel_rfl) rfl (by rw [helZ_size]; omega), fill_many (off := 1) (n := 32) (by kernel_rfl) (by rw [bvs_size, hl]) (by simp [helZ_size]), fill_one (off := 33) (by kernel_rfl) rfl (by rw [hs]; omega)]
 refine (show Instr.fill _ _ [] = some _ from rfl).trans (congrArg some ?_)
 refine Array.ext (by rw [Array.size_setIfInBounds, hs, helA_size _ _ _ hl]) fun i h1 h2 => ?_
 have hi : i < 34 := by rw [helA_size _ _ _ hl] at h2; exact h2
 apply Option.some.inj
 rw [← Array.getElem?_eq_getElem h1, ← Array.getElem?_eq_getElem h2, Array.getElem?_setIfInBounds]
 by_cases h33 : 33 = i
 ·subst h33
  rw [if_pos rfl, if_pos (by rw [hs]; omega), helA_ids hl]
 rw [if_neg h33, splice_get (by simp [bvs_size, hl, helZ_size])]
 by_cases h0 : i < 1
 ·obtain rfl : i = 0 := by omega
  rw [if_pos h0, helA_0]
  simp [helZ_size]
 ·rw [if_neg h0, if_pos (by rw [bvs_size, hl]; omega)]
  obtain ⟨k, rfl⟩ : ∃ k, i = 1 + k := ⟨i - 1, by omega⟩
  rw [helA_r hl k (by omega), bvs_getElem?, if_pos (by omega), show 1 + k - 1 = k by omega]
theorem AgA32 : Agg Tryz.prog 163 32 := ⟨⟨_, Tryz.underlying163, rfl⟩, by kernel_rfl⟩
theorem ldA32 (x : Value) : Instr.loadAt 163 x = loadAgg 163 x := rfl
attribute [local go_sem ↓] bdHl ldA32
set_option maxRecDepth 100000 in
set_option maxHeartbeats 2000000 in
theorem hosthello_any (H c g cap : Nat) (s : HS) (RN IL : List UInt8) (hr32 : RN.length = 32) (hil : IL.length = 8) (vr vi : Value) (w : World) (hr : HR w H s)
  (c1 : w.cell? ⟨c, 1, none⟩ = some vr) (hvr : Sl w vr RN) (c20 : w.cell? ⟨c, 284, none⟩ = some (.slice (some ⟨g, 0, none⟩) 1 cap)) (cg : w.cell? ⟨g, 1, none⟩ = some vi) (hvi : Sl w vi IL) :
  Calls Tryz.prog 72 #[.pointer (some ⟨H, 0, none⟩), .pointer (some ⟨c, 0, none⟩)] w fun e w' => (∃ v l, e = .returned v ∧ l.length = 46 ∧ OwnB w' w.heap.size v l) ∧ Below w.heap.size w w' := by
 have c0 : w.cell? ⟨H, 0, none⟩ = some (.int .i64 (s.role : Nat)) := hr.c 0
 obtain ⟨ro, rc, rfl, -, -, hp⟩ := id hvr
 obtain ⟨rb, rof, rfl, -⟩ := hp (by omega)
 clear hp
 obtain ⟨io, ic, rfl, -⟩ := id hvi
 have HV := Lib.hid (And.intro hvr (And.intro hvi (And.intro hr32 hil)))
 have hb210 := fun b a n cc W => build210 b RN a n cc hr32 W
 clear hr hvr hvi hr32 hil
 go_enter Tryz.func72, Tryz.ntmps72
 go_wp2_with fail
 have l32 : ∀ W, Sl W (.slice (some ⟨rb, rof, none⟩) RN.length rc) RN → (loadAgg 163 (.pointer (some ⟨rb, rof, none⟩))).run Tryz.prog W = .ok (.agg (bvs RN)) W := fun W h => by
  have := load_sl (P := Tryz.prog) AgA32 h (by have := HV.out; omega) (by omega)
  rwa [List.take_of_length_le (by have := HV.out; omega)] at this
 have harr : ∀ W, (Instr.arrayAt 163 (.slice (some ⟨rb, rof, none⟩) RN.length rc)).run Tryz.prog W = .ok (.pointer (some ⟨rb, rof, none⟩)) W := fun W => run_arrayAt (h := Tryz.underlying163) (hn := by have := HV.out; omega) ..
 refine Rg.wp_region_plan (Rg.rowFork [(0, 3), (1, 3), (2, 3), (3, 0), (4, 3), (5, 3), (6, 3), (7, 3), (8, 0), (11, 3), (12, 3), (13, 3), (14, 0), (15, 3), (16, 3), (17, 0)] 9 [(10, 0), (18, 1), (19, 3), (20, 1), (21, 3), (22, 3), (23, 3), (24, 3), (25, 3)] 18 [(9, 1), (10, 0), (19, 3), (20, 1), (21, 3), (22, 3), (23, 3), (24, 3), (25, 3)] []) [] (by kernel_rfl) (by kernel_rfl) ?_
 simp only [Rg.row, Rg.rowFork, Rg.PT.map, List.map_cons, List.map_nil, List.getD_cons_zero, List.getD_cons_succ]
 go_wp2_with (first
  |(with_reducible refine Rg.plan_pure ?_ ?_ ?_); kernel_rfl; kernel_rfl; intro _ _|(with_reducible refine Rg.plan_take ?_ ?_ ?_); kernel_rfl; kernel_rfl; intro _ _|(with_reducible refine Rg.plan_keep ?_ ?_); kernel_rfl; intro K hK|refine hK _ _ (Rg.Keep.refl _) ?_; clear hK|refine hK _ _ (Rg.Keep.of_below (by assumption)) ?_; clear hK|(with_reducible refine Rg.plan_skip ?_ ?_); kernel_rfl|(with_reducible refine Rg.plan_done ?_)|(with_reducible refine Rg.calm_normal ?_))
 refine Rg.plan_fork (by kernel_rfl) (by kernel_rfl) ?_ ?_
 ·intro K hK
  go_wp2_with (first
   |(with_reducible refine Rg.plan_pure ?_ ?_ ?_); kernel_rfl; kernel_rfl; intro _ _|(with_reducible refine Rg.plan_take ?_ ?_ ?_); kernel_rfl; kernel_rfl; intro _ _|(with_reducible refine Rg.plan_keep ?_ ?_); kernel_rfl; intro K hK|refine hK _ _ (Rg.Keep.refl _) ?_; clear hK|refine hK _ _ (Rg.Keep.of_below (by assumption)) ?_; clear hK|(with_reducible refine Rg.plan_skip ?_ ?_); kernel_rfl|(with_reducible refine Rg.plan_done ?_)|(with_reducible refine Rg.calm_normal ?_))
  refine hK _ _ (Rg.Keep.refl _) ?_
  clear hK
  have l1 := l32 w.drew (show Sl w.drew _ _ from HV.out.1)
  go_wp2_with (first
   |(with_reducible refine Rg.plan_pure ?_ ?_ ?_); kernel_rfl; kernel_rfl; intro _ _|(with_reducible refine Rg.plan_take ?_ ?_ ?_); kernel_rfl; kernel_rfl; intro _ _|(with_reducible refine Rg.plan_keep ?_ ?_); kernel_rfl; intro K hK|refine hK _ _ (Rg.Keep.refl _) ?_; clear hK|refine hK _ _ (Rg.Keep.of_below (by assumption)) ?_; clear hK|(with_reducible refine Rg.plan_skip ?_ ?_); kernel_rfl|(with_reducible refine Rg.plan_done ?_)|(with_reducible refine Rg.calm_normal ?_))
  have al : Below w.drew.heap.size w.drew (w.drew.alloc (.cells #[.slice io IL.length ic] 22)) := (Below.refl _ _).alloc (Nat.le_refl _) _
  have bl : Below w.heap.size w (w.drew.alloc (.cells #[.slice io IL.length ic] 22)) := ((Below.refl w.heap.size w).drew).alloc (Nat.le_refl _) _
  have rg : row? (w.drew.alloc (.cells #[.slice io IL.length ic] 22)) w.heap.size = some #[.slice io IL.length ic] := row?_alloc_at _ _ _ _ rfl
  refine hK _ _ (Rg.Keep.of_below al) ?_
  clear hK l1
  go_wp2_with (first
   |(with_reducible refine Rg.plan_pure ?_ ?_ ?_); kernel_rfl; kernel_rfl; intro _ _|(with_reducible refine Rg.plan_take ?_ ?_ ?_); kernel_rfl; kernel_rfl; intro _ _|(with_reducible refine Rg.plan_keep ?_ ?_); kernel_rfl; intro K hK|refine hK _ _ (Rg.Keep.refl _) ?_; clear hK|refine hK _ _ (Rg.Keep.of_below (by assumption)) ?_; clear hK|(with_reducible refine Rg.plan_skip ?_ ?_); kernel_rfl|(with_reducible refine Rg.plan_done ?_)|(with_reducible refine Rg.calm_normal ?_))
  refine (helput_any _ RN IL HV.out.2.2.1 HV.out.2.2.2 w.heap.size _ _ rg (HV.out.2.1.below bl)).mono ?_
  rintro e w4 ⟨⟨v', l', rfl, hl', ho⟩, b4⟩
  obtain ⟨vo, vc, rfl, -⟩ := id ho.sl
  have H4 := Lib.hid (And.intro hl' (And.intro (own_lower ho bl.size) (bl.trans (b4.mono bl.size))))
  refine hK _ _ (Rg.Keep.of_below b4) ?_
  clear hK b4 ho hl' rg bl al
  go_wp2_with (first
   |(with_reducible refine Rg.plan_pure ?_ ?_ ?_); kernel_rfl; kernel_rfl; intro _ _|(with_reducible refine Rg.plan_take ?_ ?_ ?_); kernel_rfl; kernel_rfl; intro _ _|(with_reducible refine Rg.plan_keep ?_ ?_); kernel_rfl; intro K hK|refine hK _ _ (Rg.Keep.refl _) ?_; clear hK|refine hK _ _ (Rg.Keep.of_below (by assumption)) ?_; clear hK|(with_reducible refine Rg.plan_skip ?_ ?_); kernel_rfl|(with_reducible refine Rg.plan_done ?_)|(with_reducible refine Rg.calm_normal ?_))
  go_ret
  exact ⟨⟨_, l', rfl, H4.out.1, H4.out.2.1⟩, H4.out.2.2⟩
 ·intro K hK
  go_wp2_with (first
   |(with_reducible refine Rg.plan_pure ?_ ?_ ?_); kernel_rfl; kernel_rfl; intro _ _|(with_reducible refine Rg.plan_take ?_ ?_ ?_); kernel_rfl; kernel_rfl; intro _ _|(with_reducible refine Rg.plan_keep ?_ ?_); kernel_rfl; intro K hK|refine hK _ _ (Rg.Keep.refl _) ?_; clear hK|refine hK _ _ (Rg.Keep.of_below (by assumption)) ?_; clear hK|(with_reducible refine Rg.plan_skip ?_ ?_); kernel_rfl|(with_reducible refine Rg.plan_done ?_)|(with_reducible refine Rg.calm_normal ?_))
  have al : Below w.drew.heap.size w.drew (w.drew.alloc (.cells #[.slice io IL.length ic] 22)) := (Below.refl _ _).alloc (Nat.le_refl _) _
  have bl : Below w.heap.size w (w.drew.alloc (.cells #[.slice io IL.length ic] 22)) := ((Below.refl w.heap.size w).drew).alloc (Nat.le_refl _) _
  have rg : row? (w.drew.alloc (.cells #[.slice io IL.length ic] 22)) w.heap.size = some #[.slice io IL.length ic] := row?_alloc_at _ _ _ _ rfl
  refine hK _ _ (Rg.Keep.of_below al) ?_
  clear hK
  have l1 := l32 (w.alloc (.cells #[.slice io IL.length ic] 22)).drew (HV.out.1.below bl)
  go_wp2_with (first
   |(with_reducible refine Rg.plan_pure ?_ ?_ ?_); kernel_rfl; kernel_rfl; intro _ _|(with_reducible refine Rg.plan_take ?_ ?_ ?_); kernel_rfl; kernel_rfl; intro _ _|(with_reducible refine Rg.plan_keep ?_ ?_); kernel_rfl; intro K hK|refine hK _ _ (Rg.Keep.refl _) ?_; clear hK|refine hK _ _ (Rg.Keep.of_below (by assumption)) ?_; clear hK|(with_reducible refine Rg.plan_skip ?_ ?_); kernel_rfl|(with_reducible refine Rg.plan_done ?_)|(with_reducible refine Rg.calm_normal ?_))
  refine hK _ _ (Rg.Keep.refl _) ?_
  clear hK
  go_wp2_with (first
   |(with_reducible refine Rg.plan_pure ?_ ?_ ?_); kernel_rfl; kernel_rfl; intro _ _|(with_reducible refine Rg.plan_take ?_ ?_ ?_); kernel_rfl; kernel_rfl; intro _ _|(with_reducible refine Rg.plan_keep ?_ ?_); kernel_rfl; intro K hK|refine hK _ _ (Rg.Keep.refl _) ?_; clear hK|refine hK _ _ (Rg.Keep.of_below (by assumption)) ?_; clear hK|(with_reducible refine Rg.plan_skip ?_ ?_); kernel_rfl|(with_reducible refine Rg.plan_done ?_)|(with_reducible refine Rg.calm_normal ?_))
  refine (helput_any _ RN IL HV.out.2.2.1 HV.out.2.2.2 w.heap.size _ _ rg (HV.out.2.1.below bl)).mono ?_
  rintro e w4 ⟨⟨v', l', rfl, hl', ho⟩, b4⟩
  obtain ⟨vo, vc, rfl, -⟩ := id ho.sl
  have H4 := Lib.hid (And.intro hl' (And.intro (own_lower ho bl.size) (bl.trans (b4.mono bl.size))))
  refine hK _ _ (Rg.Keep.of_below b4) ?_
  clear hK b4 ho hl' rg bl al
  go_wp2_with (first
   |(with_reducible refine Rg.plan_pure ?_ ?_ ?_); kernel_rfl; kernel_rfl; intro _ _|(with_reducible refine Rg.plan_take ?_ ?_ ?_); kernel_rfl; kernel_rfl; intro _ _|(with_reducible refine Rg.plan_keep ?_ ?_); kernel_rfl; intro K hK|refine hK _ _ (Rg.Keep.refl _) ?_; clear hK|refine hK _ _ (Rg.Keep.of_below (by assumption)) ?_; clear hK|(with_reducible refine Rg.plan_skip ?_ ?_); kernel_rfl|(with_reducible refine Rg.plan_done ?_)|(with_reducible refine Rg.calm_normal ?_))
  go_ret
  exact ⟨⟨_, l', rfl, H4.out.1, H4.out.2.1⟩, H4.out.2.2⟩
end Go.Proofs.YthjbmggpleliaaaGreatDoor

end
