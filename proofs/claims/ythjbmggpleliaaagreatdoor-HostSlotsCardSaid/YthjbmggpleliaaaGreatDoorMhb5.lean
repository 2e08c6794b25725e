/- AesW1; AesW2; AesW3. -/
import Derived.Test.YthjbmggpleliaaaGreatDoorRows
import Derived.Test.YthjbmggpleliaaaGreatDoorMhb2
import Derived.Test.YthjbmggpleliaaaGreatDoorMhb3
section
namespace Go.Proofs.YthjbmggpleliaaaGreatDoor
open Go.RowKit Go.Rw Aes
theorem Ag16 : Agg Tryz.prog 66 16 := ⟨⟨_, Tryz.underlying66, rfl⟩, by kernel_rfl⟩
theorem Ag176 : Agg Tryz.prog 286 176 := ⟨⟨_, Tryz.underlying286, rfl⟩, by kernel_rfl⟩
theorem ld16 (x : Value) : Instr.loadAt 66 x = loadAgg 66 x := rfl
theorem st16 (x y : Value) : Instr.storeAt 66 x y = storeAgg 66 x y := rfl
theorem al16 : Instr.alloc 66 true (.tuple #[]) = allocAgg 66 := rfl
theorem rld16 (w : World) (b : Nat) (h : (row? w b).map (·.size) = some 16) : (loadAgg 66 (.pointer (some ⟨b, 0, none⟩))).run Tryz.prog w = .ok (.agg ((row? w b).getD #[])) w := load_rule Ag16 w b h
theorem rst16 (w : World) (b : Nat) (c' : Array Value) (h : (row? w b).map (·.size) = some 16) (hn : c'.size = 16) (h1 : allOne c' = true) : (storeAgg 66 (.pointer (some ⟨b, 0, none⟩)) (.agg c')).run Tryz.prog w = .ok () (w.setRow b c') := store_rule Ag16 w b c' h hn h1
theorem ral16 (w : World) : (allocAgg 66).run Tryz.prog w = .ok (.pointer (some ⟨w.heap.size, 0, none⟩)) (w.alloc (.cells (bvs (zeros 16)) 66)) := alloc_rule (n := 16) (by kernel_rfl) w
theorem ld176 (x : Value) : Instr.loadAt 286 x = loadAgg 286 x := rfl
theorem st176 (x y : Value) : Instr.storeAt 286 x y = storeAgg 286 x y := rfl
theorem al176 : Instr.alloc 286 true (.tuple #[]) = allocAgg 286 := rfl
theorem rld176 (w : World) (b : Nat) (h : (row? w b).map (·.size) = some 176) : (loadAgg 286 (.pointer (some ⟨b, 0, none⟩))).run Tryz.prog w = .ok (.agg ((row? w b).getD #[])) w := load_rule Ag176 w b h
theorem rst176 (w : World) (b : Nat) (c' : Array Value) (h : (row? w b).map (·.size) = some 176) (hn : c'.size = 176) (h1 : allOne c' = true) : (storeAgg 286 (.pointer (some ⟨b, 0, none⟩)) (.agg c')).run Tryz.prog w = .ok () (w.setRow b c') := store_rule Ag176 w b c' h hn h1
theorem ral176 (w : World) : (allocAgg 286).run Tryz.prog w = .ok (.pointer (some ⟨w.heap.size, 0, none⟩)) (w.alloc (.cells (bvs (zeros 176)) 286)) := alloc_rule (n := 176) (by kernel_rfl) w
theorem rst16p (w : World) (b o : Nat) (c' : Array Value) (_ : ((row? w b).map (·.size) == some 16) = false) (h : decide (o + 16 ≤ ((row? w b).getD #[]).size) = true) (h0 : (row? w b).isSome = true) (hn : c'.size = 16) (h1 : allOne c' = true) : (storeAgg 66 (.pointer (some ⟨b, o, none⟩)) (.agg c')).run Tryz.prog w = .ok () (w.setRow b (splice ((row? w b).getD #[]) o c')) := part_store_rule Ag16 w b o c' h h0 hn h1
theorem rld16p (w : World) (b o : Nat) (_ : ((row? w b).map (·.size) == some 16) = false) (h : decide (o + 16 ≤ ((row? w b).getD #[]).size) = true) (h0 : (row? w b).isSome = true) : (loadAgg 66 (.pointer (some ⟨b, o, none⟩))).run Tryz.prog w = .ok (.agg (((row? w b).getD #[]).extract o (o + 16))) w := part_rule Ag16 w b o h h0
attribute [local go_sem ↓] ld16 st16 al16 ld176 st176 al176 shift_shl8 shift_shr8 bvs_getElem?
attribute [local go_sem] rst16p rld16p rld16 rst16 ral16 rld176 rst176 ral176 setRow_alloc_at setRow_alloc_past setRow_drew bvs_setn
set_option maxRecDepth 100000 in
set_option maxHeartbeats 400000 in
theorem double_any (a : UInt8) (w : World) :
  Calls Tryz.prog 202 #[.int .u8 (n8 a : Nat)] w fun e w' => e = .returned (.int .u8 (n8 (double a) : Nat)) ∧ w = w' := by
 by_cases h : (a &&& 128 != 0) = true
 ·have e : double a = shl8 a 1 ^^^ 27 := by rw [double, if_pos h]
  have E := Lib.hid e; clear e
  go_enter Tryz.func202, Tryz.ntmps202
  go_wp2
  go_ret
  exact ⟨by rw [E.out]; rfl, rfl⟩
 ·have e : double a = shl8 a 1 := by rw [double, if_neg h]
  have E := Lib.hid e; clear e
  have h' : (a &&& 128 != 0) = false := by simpa using h
  clear h
  go_enter Tryz.func202, Tryz.ntmps202
  go_wp2
  go_ret
  exact ⟨by rw [E.out]; rfl, rfl⟩
theorem boxAt (a : UInt8) (h : n8 a < (⟨boxTab.toArray⟩ : ByteArray).size) : ((⟨boxTab.toArray⟩ : ByteArray)[n8 a]'h).toNat = n8 (box a) := by
 have h' : n8 a < boxTab.length := by rw [boxTab_length]; exact n8_lt a
 have e : box a = boxTab[n8 a] := by simp [box, nth, h']
 rw [e]; rfl
set_option maxRecDepth 100000 in
set_option maxHeartbeats 400000 in
set_option maxRecDepth 100000 in
theorem box_any (a : UInt8) (w : World) :
  Calls Tryz.prog 201 #[.int .u8 (n8 a : Nat)] w fun e w' => e = .returned (.int .u8 (n8 (box a) : Nat)) ∧ w = w' := by
 have hl := n8_lt a
 go_enter Tryz.func201, Tryz.ntmps201
 go_wp2
 go_ret
 exact ⟨congrArg (fun n : Nat => Ending.returned (.int .u8 n)) (boxAt a _), rfl⟩
theorem bel2a (w : World) (a b : Obj) : Below w.heap.size w ((w.alloc a).alloc b) := ((Below.refl _ _).alloc (Nat.le_refl _) _).alloc (by simp) _
theorem ret16 {fn : Func} {p : Tmp} {R : Ending → World → Prop} {a : Act} {w : World} (b : Nat) (c : Array Value) (hr : fn.results = #[.cell p 66]) (hp : a.tmps.getD p undef = .pointer (some ⟨b, 0, none⟩)) (hd : a.defers = [])
  (h : row? w b = some c) (hn : c.size = 16) (hR : R (.returned (.agg c)) w) : bodyPost Tryz.prog fn R .ret a w :=
 bodyPost_ret (results_row Ag16 hr _ _ b c hp h hn) hd hR
theorem ret176 {fn : Func} {p : Tmp} {R : Ending → World → Prop} {a : Act} {w : World} (b : Nat) (c : Array Value) (hr : fn.results = #[.cell p 286]) (hp : a.tmps.getD p undef = .pointer (some ⟨b, 0, none⟩)) (hd : a.defers = [])
  (h : row? w b = some c) (hn : c.size = 176) (hR : R (.returned (.agg c)) w) : bodyPost Tryz.prog fn R .ret a w :=
 bodyPost_ret (results_row Ag176 hr _ _ b c hp h hn) hd hR
set_option maxRecDepth 100000 in
set_option maxHeartbeats 400000 in
theorem boxed_any (s : List UInt8) (hs : s.length = 16) (w : World) :
  Calls Tryz.prog 179 #[.agg (bvs s)] w fun e w' => e = .returned (.agg (bvs (boxed s))) ∧ Below w.heap.size w w' := by
 go_enter Tryz.func179, Tryz.ntmps179
 go_wp2_with fail
 go_loopw [4] (fun v wr => ∃ k : Nat, k ≤ 16 ∧ v = .int .i64 k ∧ wr = (w.alloc (.cells (bvs s) 66)).alloc (.cells (bvs (upto (boxedF s) (zeros 16) 16 k)) 66)) (fun v _ => 16 - (intOf v).toNat)
 case atStart => exact ⟨0, by omega, rfl, by rw [upto_zero _ _ _ (zeros_length _)]⟩
 case round =>
  obtain ⟨k, hk, rfl, rfl⟩ := hrel
  by_cases hlt : k < 16
  ·have g := upto_set (boxedF s) (zeros 16) 16 k hlt
   unfold boxedF at g
   have G := Lib.hid g; clear g
   go_wp2_with (go_at_call 201; refine (box_any _ _).mono ?_; rintro e w' ⟨rfl, rfl⟩)
   go_roundw
   case rel => exact ⟨k + 1, by omega, by go_num, by first | rw [G.out] | (unfold boxedF; rw [← G.out])⟩
   case measure => simp [intOf]; omega
  ·obtain rfl : k = 16 := by omega
   go_wp2_with fail
   refine ret16 (w.heap.size + 1) (bvs (boxed s)) rfl rfl rfl ?_ (by rw [bvs_size]; exact boxed_length _) ⟨rfl, bel2a _ _ _⟩
   rw [row?_alloc_at _ _ _ _ (by simp), upto_full]; rfl
set_option maxRecDepth 100000 in
set_option maxHeartbeats 400000 in
theorem add_any (s k : List UInt8) (hs : s.length = 16) (hk : k.length = 16) (w : World) :
  Calls Tryz.prog 177 #[.agg (bvs s), .agg (bvs k)] w fun e w' => e = .returned (.agg (bvs (add s k))) ∧ Below w.heap.size w w' := by
 go_enter Tryz.func177, Tryz.ntmps177
 go_wp2_with fail
 go_loopw [6] (fun v wr => ∃ j : Nat, j ≤ 16 ∧ v = .int .i64 j ∧ row? wr w.heap.size = some (bvs (upto (addF s k) s 16 j)) ∧ row? wr (w.heap.size + 1) = some (bvs k) ∧
   row? wr (w.heap.size + 2) = some (bvs (zeros 16)) ∧ Below w.heap.size w wr) (fun v _ => 16 - (intOf v).toNat)
 case atStart => exact ⟨0, by omega, rfl, by rw [upto_zero _ _ _ hs]; simp [go_sem], by simp [go_sem], by simp [go_sem], (bel2a _ _ _).alloc (by simp; omega) _⟩
 case round =>
  obtain ⟨j, hj, rfl, h0, h1, h2, hb⟩ := hrel
  by_cases hlt : j < 16
  ·have g := upto_set (addF s k) s 16 j hlt
   have ghi := upto_hi (f := addF s k) (z := s) hlt (Nat.le_refl j)
   have G := Lib.hid g; clear g
   have H0 := Lib.hid h0
   have H1 := Lib.hid h1
   have H2 := Lib.hid h2
   have c0 := row?_cell h0
   have c1 := row?_cell h1
   have f0 := row?_frozen h0
   clear h0 h1 h2
   go_wp2_with fail
   refine Rg.wp_region_plan (Rg.row [(0, 3), (1, 3), (2, 0), (3, 3), (4, 3), (5, 0), (6, 3), (7, 3)] [8]) [8] (by kernel_rfl) (by kernel_rfl) ?_
   simp only [Rg.row, Rg.PT.map, List.map_cons, List.map_nil, List.getD_cons_zero, List.getD_cons_succ]
   go_wp2_with (first
    |(with_reducible refine Rg.plan_pure ?_ ?_ ?_); kernel_rfl; kernel_rfl; intro _ _|(with_reducible refine Rg.plan_take ?_ ?_ ?_); kernel_rfl; kernel_rfl; intro _ _|(with_reducible refine Rg.plan_keep ?_ ?_); kernel_rfl; intro K hK|refine hK _ _ (Rg.Keep.refl _) ?_; clear hK|refine hK _ _ (Rg.Keep.of_below (by assumption)) ?_; clear hK|(with_reducible refine Rg.plan_skip ?_ ?_); kernel_rfl|(with_reducible refine Rg.plan_done ?_)|(with_reducible refine Rg.calm_normal ?_))
   go_roundw
   case rel =>
    refine ⟨j + 1, by omega, by go_num, ?_, ?_, ?_, (hb.setCell (Nat.le_refl _) _).drew⟩
    ·rw [row?_drew, row?_setCell_eq H0.out, bvs_setn]; exact congrArg (fun l => some (bvs l)) G.out
    ·rw [row?_drew, row?_setCell_ne _ _ _ _ (by simp)]; exact H1.out
    ·rw [row?_drew, row?_setCell_ne _ _ _ _ (by simp)]; exact H2.out
   case measure => simp [intOf]; omega
  ·obtain rfl : j = 16 := by omega
   rw [upto_full] at h0
   go_wp2_with fail
   refine ret16 (w.heap.size + 2) (bvs (add s k)) rfl rfl rfl (row?_setRow_eq h2) (by rw [bvs_size]; exact add_length _ _) ⟨rfl, ?_⟩
   exact below_setRow hb (by omega) _
set_option maxRecDepth 100000 in
set_option maxHeartbeats 1000000 in
theorem mixed_any (s : List UInt8) (hs : s.length = 16) (w : World) :
  Calls Tryz.prog 178 #[.agg (bvs s)] w fun e w' => e = .returned (.agg (bvs (mixed s))) ∧ Below w.heap.size w w' := by
 go_enter Tryz.func178, Tryz.ntmps178
 go_wp2_with fail
 go_loopw [8] (fun v wr => ∃ j : Nat, j ≤ 16 ∧ v = .int .i64 j ∧ row? wr w.heap.size = some (bvs s) ∧ row? wr (w.heap.size + 1) = some (bvs (upto (mixedF s) (zeros 16) 16 j)) ∧ Below w.heap.size w wr) (fun v _ => 16 - (intOf v).toNat)
 case atStart => exact ⟨0, by omega, rfl, by simp [go_sem], by rw [upto_zero _ _ _ (zeros_length _)]; simp [go_sem], bel2a _ _ _⟩
 case round =>
  obtain ⟨j, hj, rfl, h0, h1, hb⟩ := hrel
  by_cases hlt : j < 16
  ·have g := upto_set (mixedF s) (zeros 16) 16 j hlt
   have G := Lib.hid g; clear g
   have H0 := Lib.hid h0
   have H1 := Lib.hid h1
   have c0 := row?_cell h0
   have c1 := row?_cell h1
   have f1 := row?_frozen h1
   clear h0 h1
   go_wp2_with fail
   refine Rg.wp_region_plan (Rg.row [(0, 3), (1, 3), (2, 3), (3, 3), (4, 0), (5, 3), (6, 3), (7, 3), (8, 3), (9, 3), (10, 3), (11, 0), (12, 3), (13, 3)] []) [] (by kernel_rfl) (by kernel_rfl) ?_
   simp only [Rg.row, Rg.PT.map, List.map_nil, List.getD_cons_zero, List.getD_cons_succ]
   go_wp2_with (first
    |(with_reducible refine Rg.plan_pure ?_ ?_ ?_); kernel_rfl; kernel_rfl; intro _ _|(with_reducible refine Rg.plan_take ?_ ?_ ?_); kernel_rfl; kernel_rfl; intro _ _|(with_reducible refine Rg.plan_keep ?_ ?_); kernel_rfl; intro K hK|refine hK _ _ (Rg.Keep.refl _) ?_; clear hK|refine hK _ _ (Rg.Keep.of_below (by assumption)) ?_; clear hK|(with_reducible refine Rg.plan_skip ?_ ?_); kernel_rfl|(with_reducible refine Rg.plan_done ?_)|(with_reducible refine Rg.calm_normal ?_))
   refine Rg.wp_region_plan (Rg.row [(0, 3), (1, 3), (3, 3), (6, 3), (8, 3), (9, 3), (10, 3), (11, 3), (12, 3), (13, 3), (14, 0), (16, 3), (17, 3), (18, 3), (19, 3), (20, 3), (21, 3), (22, 0), (2, 1), (4, 1), (5, 3), (7, 3), (15, 3), (23, 3), (24, 3)] [25]) [25] (by kernel_rfl) (by kernel_rfl) ?_
   simp only [Rg.row, Rg.PT.map, List.map_cons, List.map_nil, List.getD_cons_zero, List.getD_cons_succ]
   go_wp2_with (first
    | (go_at_call 202; refine (double_any _ _).mono ?_; rintro e w' ⟨rfl, rfl⟩)
    |(with_reducible refine Rg.plan_pure ?_ ?_ ?_); kernel_rfl; kernel_rfl; intro _ _|(with_reducible refine Rg.plan_take ?_ ?_ ?_); kernel_rfl; kernel_rfl; intro _ _|(with_reducible refine Rg.plan_keep ?_ ?_); kernel_rfl; intro K hK|refine hK _ _ (Rg.Keep.refl _) ?_; clear hK|refine hK _ _ (Rg.Keep.of_below (by assumption)) ?_; clear hK|(with_reducible refine Rg.plan_skip ?_ ?_); kernel_rfl|(with_reducible refine Rg.plan_done ?_)|(with_reducible refine Rg.calm_normal ?_))
   go_roundw
   case rel =>
    refine ⟨j + 1, by omega, by go_num, ?_, ?_, ((hb.setCell (by simp) _).drew).drew⟩
    ·rw [row?_drew, row?_drew, row?_setCell_ne _ _ _ _ (by simp)]; exact H0.out
    ·rw [row?_drew, row?_drew, row?_setCell_eq H1.out, bvs_setn]; exact congrArg (fun l => some (bvs l)) G.out
   case measure => simp [intOf]; omega
  ·obtain rfl : j = 16 := by omega
   rw [upto_full] at h1
   go_wp2_with fail
   refine ret16 (w.heap.size + 1) (bvs (mixed s)) rfl rfl rfl (row?_setRow_eq h1) (by rw [bvs_size]; exact mixed_length _) ⟨rfl, ?_⟩
   exact below_setRow hb (by omega) _
end Go.Proofs.YthjbmggpleliaaaGreatDoor

end
section
namespace Go.Proofs.YthjbmggpleliaaaGreatDoor
open Go.RowKit Go.Rw Aes
attribute [local go_sem ↓] ld16 st16 al16 ld176 st176 al176 shift_shl8 shift_shr8 bvs_getElem?
attribute [local go_sem] rst16p rld16p rld16 rst16 ral16 rld176 rst176 ral176 setRow_alloc_at setRow_alloc_past setRow_drew bvs_setn
def keyF0 (key : List UInt8) (m : Nat) (p : Nat) : UInt8 := if p = 16 * (m + 1) then nth (rowKey key m) 0 ^^^ box (nth (rowKey key m) 13) else keyF key p
theorem keyF0_set (key : List UInt8) (m i : Nat) (hm : m < 10) (hi : i < 4) :
  (upto (keyF0 key m) (zeros 176) 176 ((m + 1) * 16 + i)).set ((m + 1) * 16 + i) (nth (rowKey key m) i ^^^ box (nth (rowKey key m) (12 + (i + 1) % 4))) = upto (keyF0 key m) (zeros 176) 176 ((m + 1) * 16 + (i + 1)) := by
 have e : keyF0 key m ((m + 1) * 16 + i) = nth (rowKey key m) i ^^^ box (nth (rowKey key m) (12 + (i + 1) % 4)) := by
  unfold keyF0
  by_cases h0 : i = 0
  ·subst h0; rw [if_pos (by omega)]
  ·rw [if_neg (by omega), show (m + 1) * 16 + i = 16 * (m + 1) + i by omega, keyF_lo key m i hi h0]
 rw [← e, upto_set _ _ _ _ (by omega)]; rfl
theorem keyF0_start (key : List UInt8) (m : Nat) : upto (keyF key) (zeros 176) 176 (16 * (m + 1)) = upto (keyF0 key m) (zeros 176) 176 ((m + 1) * 16 + 0) := by
 rw [show (m + 1) * 16 + 0 = 16 * (m + 1) by omega]
 exact upto_congr fun i hi _ => by unfold keyF0; rw [if_neg (by omega)]
theorem keyF0_end (key : List UInt8) (m : Nat) (hm : m < 10) :
  (upto (keyF0 key m) (zeros 176) 176 ((m + 1) * 16 + 4)).set ((m + 1) * 16) (nth (upto (keyF0 key m) (zeros 176) 176 ((m + 1) * 16 + 4)) ((m + 1) * 16) ^^^ rcon m) = upto (keyF key) (zeros 176) 176 ((m + 1) * 16 + 4) := by
 apply ext16 (n := 176) (by simp [upto_length]) (upto_length ..)
 intro p hp
 rw [upto_lo (i := (m + 1) * 16) (by omega) (by omega), set_get _ _ _ _ (by rw [upto_length]; omega), upto_get hp, upto_get hp]
 by_cases h : (m + 1) * 16 = p
 ·subst h
  rw [if_pos rfl, if_pos (by omega), show (m + 1) * 16 = 16 * (m + 1) by omega, keyF_first, keyF0, if_pos rfl]
 ·rw [if_neg h]
  split
  ·rw [keyF0, if_neg (by omega)]
  ·rfl
theorem keyF_set (key : List UInt8) (m i : Nat) (hm : m < 10) (h4 : 4 ≤ i) (hi : i < 16) :
  (upto (keyF key) (zeros 176) 176 ((m + 1) * 16 + i)).set ((m + 1) * 16 + i) (nth (rowKey key m) i ^^^ nth (upto (keyF key) (zeros 176) 176 ((m + 1) * 16 + i)) ((m + 1) * 16 + (i - 4))) = upto (keyF key) (zeros 176) 176 ((m + 1) * 16 + (i + 1)) := by
 have e : keyF key ((m + 1) * 16 + i) = nth (rowKey key m) i ^^^ keyF key ((m + 1) * 16 + (i - 4)) := by
  rw [show (m + 1) * 16 + i = 16 * (m + 1) + i by omega, keyF_hi key m i h4 hi, show (m + 1) * 16 + (i - 4) = 16 * (m + 1) + (i - 4) by omega]
 rw [upto_lo (i := (m + 1) * 16 + (i - 4)) (by omega) (by omega), ← e, upto_set _ _ _ _ (by omega)]; rfl
theorem keys_start (key : List UInt8) (hk : key.length = 16) : key ++ (zeros 176).drop 16 = upto (keyF key) (zeros 176) 176 16 := by
 apply ext16 (n := 176) (by simp [hk, zeros_length]) (upto_length ..)
 intro i hi
 rw [upto_get hi, nth_append, hk, zeros_drop, nth_zeros, nth_zeros]
 split
 ·rename_i h; rw [keyF, show i / 16 = 0 by omega, show i % 16 = i by omega, rowKey]
 ·rfl
theorem bvs_mid (F : Nat → UInt8) (z : List UInt8) (m a : Nat) (ha : 16 * a + 16 ≤ m) (hm : m ≤ 176) (R : List UInt8) (hR : R.length = 16) (h : ∀ i, i < 16 → F (16 * a + i) = nth R i) :
  (bvs (upto F z 176 m)).extract (a * 16) (a * 16 + 16) = bvs R := by
 rw [bvs_extract, show a * 16 = 16 * a by omega, upto_part F z m a ha hm R hR h]
set_option maxRecDepth 100000 in
set_option maxHeartbeats 1000000 in
theorem keys_any (key : List UInt8) (hk : key.length = 16) (w : World) :
  Calls Tryz.prog 176 #[.agg (bvs key)] w fun e w' => e = .returned (.agg (bvs (keys key))) ∧ Below w.heap.size w w' := by
 go_enter Tryz.func176, Tryz.ntmps176
 go_wp2_with fail
 go_loopw [4, 5] (fun r v wr => ∃ m : Nat, m ≤ 10 ∧ v = .int .i64 (m + 1 : Nat) ∧ r = .int .u8 (n8 (rcon m) : Nat) ∧ row? wr (w.heap.size + 1) = some (bvs (zeros 176)) ∧ row? wr (w.heap.size + 1 + 1) = some (bvs (upto (keyF key) (zeros 176) 176 (16 * (m + 1)))) ∧ Below w.heap.size w wr) (fun _ v _ => 16 - (intOf v).toNat)
 case atStart =>
  refine ⟨0, by omega, rfl, rfl, by simp [go_sem], ?_, (bel2a _ _ _).alloc (by simp; omega) _⟩
  rw [row?_alloc_at _ _ _ _ (by simp)]
  exact congrArg (fun l => some (bvs l)) (keys_start key hk)
 case round =>
  obtain ⟨m, hm, rfl, rfl, h1, h2, hb⟩ := hrel
  obtain ⟨wo, rfl⟩ : ∃ wo : World, wo = wr := ⟨_, rfl⟩
  by_cases hlt : m < 10
  ·have hp : (loadAgg 66 (.pointer (some ⟨w.heap.size + 1 + 1, m * 16, none⟩))).run Tryz.prog wo = .ok (.agg (bvs (rowKey key m))) wo := by
    unfold loadAgg
    rw [run_loadAt_part Ag16 h2 (by rw [bvs_size, upto_length]; omega)]
    rw [bvs_mid _ _ _ m (by omega) (by omega) (rowKey key m) (rowKey_length key hk m) (fun i hi => keyF_at key m i hi)]
   have hl := rowKey_length key hk m
   have H1 := Lib.hid h1
   have H2 := Lib.hid h2
   have B2 : w.heap.size + 1 + 1 < wo.heap.size := row?_lt h2
   clear h1 h2
   go_wp2_with fail
   go_loopw [19] (fun v wi => ∃ i : Nat, i ≤ 4 ∧ v = .int .i64 i ∧ row? wi (w.heap.size + 1) = some (bvs (zeros 176)) ∧ row? wi (w.heap.size + 1 + 1) = some (bvs (upto (keyF0 key m) (zeros 176) 176 ((m + 1) * 16 + i))) ∧ row? wi wo.heap.size = some (bvs (rowKey key m)) ∧ Below w.heap.size w wi) (fun v _ => 16 - (intOf v).toNat)
   case atStart =>
    refine ⟨0, by omega, rfl, ?_, ?_, by simp [go_sem], hb.alloc (by omega) _⟩
    ·rw [row?_alloc_past _ _ _ (by omega)]; exact H1.out
    ·rw [row?_alloc_past _ _ _ (by omega), ← keyF0_start]; exact H2.out
   case round =>
    obtain ⟨i, hi, rfl, h1, h2, h3, hb⟩ := hrel
    by_cases hi4 : i < 4
    ·have G := Lib.hid (keyF0_set key m i hlt hi4)
     have I1 := Lib.hid h1
     have I2 := Lib.hid h2
     have I3 := Lib.hid h3
     have c3 := row?_cell h3
     have c2 := row?_cell h2
     have f2 := row?_frozen h2
     clear h1 h2 h3
     go_wp2_with fail
     refine Rg.wp_region_plan (Rg.row [(0, 3), (1, 3), (2, 3), (3, 3), (4, 0), (5, 3), (6, 3), (7, 3), (8, 3), (9, 3), (10, 0), (13, 3), (11, 1), (12, 3), (14, 3)] [15]) [15] (by kernel_rfl) (by kernel_rfl) ?_
     simp only [Rg.row, Rg.PT.map, List.map_cons, List.map_nil, List.getD_cons_zero, List.getD_cons_succ]
     go_wp2_with (first
      | (go_at_call 201; refine (box_any _ _).mono ?_; rintro e w' ⟨rfl, rfl⟩)
      |(with_reducible refine Rg.plan_pure ?_ ?_ ?_); kernel_rfl; kernel_rfl; intro _ _|(with_reducible refine Rg.plan_take ?_ ?_ ?_); kernel_rfl; kernel_rfl; intro _ _|(with_reducible refine Rg.plan_keep ?_ ?_); kernel_rfl; intro K hK|refine hK _ _ (Rg.Keep.refl _) ?_; clear hK|refine hK _ _ (Rg.Keep.of_below (by assumption)) ?_; clear hK|(with_reducible refine Rg.plan_skip ?_ ?_); kernel_rfl|(with_reducible refine Rg.plan_done ?_)|(with_reducible refine Rg.calm_normal ?_))
     go_roundw
     case rel =>
      refine ⟨i + 1, by omega, by go_num, ?_, ?_, ?_, (hb.setCell (by simp; omega) _).drew⟩
      ·rw [row?_drew, row?_setCell_ne _ _ _ _ (by simp)]; exact I1.out
      ·rw [row?_drew, row?_setCell_eq I2.out, bvs_setn]; exact congrArg (fun l => some (bvs l)) G.out
      ·rw [row?_drew, row?_setCell_ne _ _ _ _ (by simp; omega)]; exact I3.out
     case measure => simp [intOf]; omega
    ·obtain rfl : i = 4 := by omega
     have G := Lib.hid (keyF0_end key m hlt)
     have I1 := Lib.hid h1
     have I2 := Lib.hid h2
     have I3 := Lib.hid h3
     have c2 := row?_cell h2
     have f2 := row?_frozen h2
     clear h1 h2 h3
     go_wp2_with fail
     refine Rg.wp_region_plan (Rg.row [(0, 3), (1, 3), (2, 3), (3, 0), (4, 3), (5, 3), (6, 3), (7, 3)] [8]) [8] (by kernel_rfl) (by kernel_rfl) ?_
     simp only [Rg.row, Rg.PT.map, List.map_cons, List.map_nil, List.getD_cons_zero, List.getD_cons_succ]
     go_wp2_with (first
      | (go_at_call 202; refine (double_any _ _).mono ?_; rintro e w' ⟨rfl, rfl⟩)
      |(with_reducible refine Rg.plan_pure ?_ ?_ ?_); kernel_rfl; kernel_rfl; intro _ _|(with_reducible refine Rg.plan_take ?_ ?_ ?_); kernel_rfl; kernel_rfl; intro _ _|(with_reducible refine Rg.plan_keep ?_ ?_); kernel_rfl; intro K hK|refine hK _ _ (Rg.Keep.refl _) ?_; clear hK|refine hK _ _ (Rg.Keep.of_below (by assumption)) ?_; clear hK|(with_reducible refine Rg.plan_skip ?_ ?_); kernel_rfl|(with_reducible refine Rg.plan_done ?_)|(with_reducible refine Rg.calm_normal ?_))
     go_loopw [8] (fun v wi => ∃ i : Nat, 4 ≤ i ∧ i ≤ 16 ∧ v = .int .i64 i ∧ row? wi (w.heap.size + 1) = some (bvs (zeros 176)) ∧ row? wi (w.heap.size + 1 + 1) = some (bvs (upto (keyF key) (zeros 176) 176 ((m + 1) * 16 + i))) ∧ row? wi wo.heap.size = some (bvs (rowKey key m)) ∧ Below w.heap.size w wi) (fun v _ => 16 - (intOf v).toNat)
     case atStart =>
      refine ⟨4, by omega, by omega, rfl, ?_, ?_, ?_, (hb.setCell (by simp; omega) _).drew⟩
      ·rw [row?_drew, row?_setCell_ne _ _ _ _ (by simp)]; exact I1.out
      ·rw [row?_drew, row?_setCell_eq I2.out, bvs_setn]; exact congrArg (fun l => some (bvs l)) G.out
      ·rw [row?_drew, row?_setCell_ne _ _ _ _ (by simp; omega)]; exact I3.out
     case round =>
      obtain ⟨i, hi4, hi, rfl, h1, h2, h3, hb⟩ := hrel
      by_cases hi16 : i < 16
      ·have G := Lib.hid (keyF_set key m i hlt hi4 hi16)
       have I1 := Lib.hid h1
       have I2 := Lib.hid h2
       have I3 := Lib.hid h3
       have c3 := row?_cell h3
       have c2 := row?_cell h2
       have f2 := row?_frozen h2
       clear h1 h2 h3
       go_wp2_with fail
       refine Rg.wp_region_plan (Rg.row [(0, 3), (1, 3), (2, 3), (3, 3), (4, 0), (5, 3), (6, 3), (7, 3), (8, 3), (9, 3), (10, 0), (11, 3), (12, 3), (13, 3)] [14]) [14] (by kernel_rfl) (by kernel_rfl) ?_
       simp only [Rg.row, Rg.PT.map, List.map_cons, List.map_nil, List.getD_cons_zero, List.getD_cons_succ]
       go_wp2_with (first
        |(with_reducible refine Rg.plan_pure ?_ ?_ ?_); kernel_rfl; kernel_rfl; intro _ _|(with_reducible refine Rg.plan_take ?_ ?_ ?_); kernel_rfl; kernel_rfl; intro _ _|(with_reducible refine Rg.plan_keep ?_ ?_); kernel_rfl; intro K hK|refine hK _ _ (Rg.Keep.refl _) ?_; clear hK|refine hK _ _ (Rg.Keep.of_below (by assumption)) ?_; clear hK|(with_reducible refine Rg.plan_skip ?_ ?_); kernel_rfl|(with_reducible refine Rg.plan_done ?_)|(with_reducible refine Rg.calm_normal ?_))
       go_roundw
       case rel =>
        refine ⟨i + 1, by omega, by omega, by go_num, ?_, ?_, ?_, (hb.setCell (by simp; omega) _).drew⟩
        ·rw [row?_drew, row?_setCell_ne _ _ _ _ (by simp)]; exact I1.out
        ·rw [row?_drew, row?_setCell_eq I2.out, bvs_setn]; exact congrArg (fun l => some (bvs l)) G.out
        ·rw [row?_drew, row?_setCell_ne _ _ _ _ (by simp; omega)]; exact I3.out
       case measure => simp [intOf]; omega
      ·obtain rfl : i = 16 := by omega
       have I1 := Lib.hid h1
       have I2 := Lib.hid h2
       clear h1 h2 h3
       go_wp2_with fail
       go_roundw
       case rel => exact ⟨m + 1, by omega, by go_num, rfl, I1.out, by rw [I2.out, show 16 * (m + 1 + 1) = (m + 1) * 16 + 16 by omega], hb⟩
       case measure => simp [intOf]; omega
  ·obtain rfl : m = 10 := by omega
   rw [show 16 * (10 + 1) = 176 by omega, upto_full] at h2
   have h2 : row? wo (w.heap.size + 1 + 1) = some (bvs (keys key)) := h2
   have hkl := keys_length key
   go_wp2_with fail
   refine ret176 (w.heap.size + 1) (bvs (keys key)) rfl rfl rfl (row?_setRow_eq h1) (by rw [bvs_size]; exact keys_length _) ⟨rfl, ?_⟩
   exact below_setRow hb (by omega) _
end Go.Proofs.YthjbmggpleliaaaGreatDoor

end
section
namespace Go.Proofs.YthjbmggpleliaaaGreatDoor
open Go.RowKit Go.Rw Aes
attribute [local go_sem ↓] ld16 st16 al16 ld176 st176 al176 shift_shl8 shift_shr8 bvs_getElem?
attribute [local go_sem] rst16p rld16p rld16 rst16 ral16 rld176 rst176 ral176 setRow_alloc_at setRow_alloc_past setRow_drew bvs_setn
set_option maxRecDepth 100000 in
set_option maxHeartbeats 1000000 in
theorem block_any (key inp : List UInt8) (hk : key.length = 16) (hi : inp.length = 16) (w : World) :
  Calls Tryz.prog 163 #[.agg (bvs key), .agg (bvs inp)] w fun e w' => e = .returned (.agg (bvs (block key inp))) ∧ Below w.heap.size w w' := by
 go_enter Tryz.func163, Tryz.ntmps163
 go_wp2_with fail
 refine (keys_any key hk _).mono ?_
 rintro e w1 ⟨rfl, hb1⟩
 have z1 := hb1.size
 simp at z1
 have r0 : row? w1 (w.heap.size + 1) = some (bvs inp) := by rw [row?_below hb1 (by simp)]; simp [go_sem]
 have r1 : row? w1 (w.heap.size + 1 + 1) = some (bvs (zeros 16)) := by rw [row?_below hb1 (by simp)]; simp [go_sem]
 have b1 : Below w.heap.size w w1 := ((bel2a _ _ _).alloc (by simp; omega) _).trans (hb1.mono (by simp; omega))
 clear hb1
 have l1 : w.heap.size + 1 < w1.heap.size := by omega
 have l2 : w.heap.size + 1 + 1 < w1.heap.size := by omega
 have k0 : (bvs (keys key)).extract 0 16 = bvs (rowKey key 0) := by
  have := keys_part key hk 0 (by omega)
  rw [bvs_extract]; exact congrArg bvs this
 go_wp2_with fail
 refine (add_any _ _ hi (rowKey_length key hk 0) _).mono ?_
 rintro e w2 ⟨rfl, hb2⟩
 have z2 := hb2.size
 simp at z2
 have s1 : row? w2 (w.heap.size + 1 + 1) = some (bvs (zeros 16)) := by rw [row?_below hb2 (by simp; omega)]; simp [go_sem, l2, r1]
 have s2 : row? w2 w1.heap.size = some (bvs (keys key)) := by rw [row?_below hb2 (by simp)]; simp [go_sem]
 have b2 : Below w.heap.size w w2 := (b1.alloc (by omega) _).trans (hb2.mono (by simp; omega))
 have l3 : w.heap.size + 1 + 1 < w2.heap.size := by omega
 have l4 : w1.heap.size < w2.heap.size := by omega
 clear hb2 r0 r1 b1 l1 z1 k0
 go_wp2_with fail
 go_loopw [7] (fun v wr => ∃ n : Nat, n ≤ 9 ∧ v = .int .i64 (n + 1 : Nat) ∧ row? wr (w.heap.size + 1 + 1) = some (bvs (zeros 16)) ∧ row? wr w1.heap.size = some (bvs (keys key)) ∧ row? wr w2.heap.size = some (bvs (stateAt key inp n)) ∧ Below w.heap.size w wr) (fun v _ => 16 - (intOf v).toNat)
 case atStart => exact ⟨0, by omega, rfl, by simp [go_sem, l3, s1], by simp [go_sem, l4, s2], by simp [go_sem]; rfl, b2.alloc (by omega) _⟩
 case round =>
  obtain ⟨n, hn, rfl, h0, h1, h2, hb⟩ := hrel
  have q0 := row?_lt h2
  by_cases hlt : n < 9
  ·have hp : (loadAgg 66 (.pointer (some ⟨w1.heap.size, (n + 1) * 16, none⟩))).run Tryz.prog wr.drew = .ok (.agg (bvs (rowKey key (n + 1)))) wr.drew := by
    unfold loadAgg
    rw [run_loadAt_part (w := wr.drew) Ag16 (c := bvs (keys key)) (o := (n + 1) * 16) h1 (by rw [bvs_size, keys_length]; omega), bvs_extract, keys_part key hk (n + 1) (by omega)]
   go_wp2_with fail
   refine Rg.wp_region_plan (Rg.row [(0, 0), (3, 3), (4, 3), (5, 0), (1, 1), (2, 1), (6, 1)] [7]) [7] (by kernel_rfl) (by kernel_rfl) ?_
   simp only [Rg.row, Rg.PT.map, List.map_cons, List.map_nil, List.getD_cons_zero, List.getD_cons_succ]
   go_wp2_with (first
    |(with_reducible refine Rg.plan_pure ?_ ?_ ?_); kernel_rfl; kernel_rfl; intro _ _|(with_reducible refine Rg.plan_take ?_ ?_ ?_); kernel_rfl; kernel_rfl; intro _ _|(with_reducible refine Rg.plan_keep ?_ ?_); kernel_rfl; intro K hK|refine hK _ _ (Rg.Keep.refl _) ?_; clear hK|refine hK _ _ (Rg.Keep.of_below (by assumption)) ?_; clear hK|(with_reducible refine Rg.plan_skip ?_ ?_); kernel_rfl|(with_reducible refine Rg.plan_done ?_)|(with_reducible refine Rg.calm_normal ?_))
   refine (boxed_any _ (stateAt_length _ _ _) _).mono ?_
   rintro e wA ⟨rfl, hA⟩
   refine hK _ _ (Rg.Keep.of_below hA) ?_
   clear hK
   go_wp2_with (first
    |(with_reducible refine Rg.plan_pure ?_ ?_ ?_); kernel_rfl; kernel_rfl; intro _ _|(with_reducible refine Rg.plan_take ?_ ?_ ?_); kernel_rfl; kernel_rfl; intro _ _|(with_reducible refine Rg.plan_keep ?_ ?_); kernel_rfl; intro K hK|refine hK _ _ (Rg.Keep.refl _) ?_; clear hK|refine hK _ _ (Rg.Keep.of_below (by assumption)) ?_; clear hK|(with_reducible refine Rg.plan_skip ?_ ?_); kernel_rfl|(with_reducible refine Rg.plan_done ?_)|(with_reducible refine Rg.calm_normal ?_))
   refine (mixed_any _ (boxed_length _) _).mono ?_
   rintro e wB ⟨rfl, hB⟩
   refine hK _ _ (Rg.Keep.of_below hB) ?_
   clear hK
   go_wp2_with (first
    |(with_reducible refine Rg.plan_pure ?_ ?_ ?_); kernel_rfl; kernel_rfl; intro _ _|(with_reducible refine Rg.plan_take ?_ ?_ ?_); kernel_rfl; kernel_rfl; intro _ _|(with_reducible refine Rg.plan_keep ?_ ?_); kernel_rfl; intro K hK|refine hK _ _ (Rg.Keep.refl _) ?_; clear hK|refine hK _ _ (Rg.Keep.of_below (by assumption)) ?_; clear hK|(with_reducible refine Rg.plan_skip ?_ ?_); kernel_rfl|(with_reducible refine Rg.plan_done ?_)|(with_reducible refine Rg.calm_normal ?_))
   refine (add_any _ _ (mixed_length _) (rowKey_length _ hk _) _).mono ?_
   rintro e wC ⟨rfl, hC⟩
   refine hK _ _ (Rg.Keep.of_below hC) ?_
   clear hK
   have zA := hA.size
   have zB := hB.size
   have hAC : Below wr.heap.size wr wC := (Below.drew (Below.refl _ wr)).trans (hA.trans ((hB.mono zA).trans (hC.mono (Nat.le_trans zA zB))))
   have g0 : row? wC (w.heap.size + 1 + 1) = some (bvs (zeros 16)) := by rw [row?_below hAC (by omega)]; exact h0
   have g1 : row? wC w1.heap.size = some (bvs (keys key)) := by rw [row?_below hAC (by omega)]; exact h1
   have g2 : row? wC w2.heap.size = some (bvs (stateAt key inp n)) := by rw [row?_below hAC q0]; exact h2
   have gb : Below w.heap.size w wC := hb.trans (hAC.mono (by omega))
   clear h0 h1 h2 hb hA hB hC hAC zA zB hp
   go_wp2_with (first
    |(with_reducible refine Rg.plan_pure ?_ ?_ ?_); kernel_rfl; kernel_rfl; intro _ _|(with_reducible refine Rg.plan_take ?_ ?_ ?_); kernel_rfl; kernel_rfl; intro _ _|(with_reducible refine Rg.plan_keep ?_ ?_); kernel_rfl; intro K hK|refine hK _ _ (Rg.Keep.refl _) ?_; clear hK|refine hK _ _ (Rg.Keep.of_below (by assumption)) ?_; clear hK|(with_reducible refine Rg.plan_skip ?_ ?_); kernel_rfl|(with_reducible refine Rg.plan_done ?_)|(with_reducible refine Rg.calm_normal ?_))
   go_roundw
   case rel =>
    refine ⟨n + 1, by omega, by go_num, ?_, ?_, row?_setRow_eq g2, below_setRow gb (by omega) _⟩
    ·rw [row?_setRow_ne _ _ _ _ (by omega)]; exact g0
    ·rw [row?_setRow_ne _ _ _ _ (by omega)]; exact g1
   case measure => simp [intOf]; omega
  ·obtain rfl : n = 9 := by omega
   have hp : (loadAgg 66 (.pointer (some ⟨w1.heap.size, 160, none⟩))).run Tryz.prog wr.drew = .ok (.agg (bvs (rowKey key 10))) wr.drew := by
    unfold loadAgg
    rw [run_loadAt_part (w := wr.drew) Ag16 (c := bvs (keys key)) (o := 160) h1 (by rw [bvs_size, keys_length]; omega), bvs_extract]
    exact congrArg (fun l => Result.ok (Value.agg (bvs l)) wr.drew) (keys_part key hk 10 (by omega))
   go_wp2_with fail
   refine Rg.wp_region_plan (Rg.row [(0, 0), (2, 3), (3, 0), (1, 1), (4, 1)] [5]) [5] (by kernel_rfl) (by kernel_rfl) ?_
   simp only [Rg.row, Rg.PT.map, List.map_cons, List.map_nil, List.getD_cons_zero, List.getD_cons_succ]
   go_wp2_with (first
    |(with_reducible refine Rg.plan_pure ?_ ?_ ?_); kernel_rfl; kernel_rfl; intro _ _|(with_reducible refine Rg.plan_take ?_ ?_ ?_); kernel_rfl; kernel_rfl; intro _ _|(with_reducible refine Rg.plan_keep ?_ ?_); kernel_rfl; intro K hK|refine hK _ _ (Rg.Keep.refl _) ?_; clear hK|refine hK _ _ (Rg.Keep.of_below (by assumption)) ?_; clear hK|(with_reducible refine Rg.plan_skip ?_ ?_); kernel_rfl|(with_reducible refine Rg.plan_done ?_)|(with_reducible refine Rg.calm_normal ?_))
   refine (boxed_any _ (stateAt_length _ _ _) _).mono ?_
   rintro e wA ⟨rfl, hA⟩
   refine hK _ _ (Rg.Keep.of_below hA) ?_
   clear hK
   go_wp2_with (first
    |(with_reducible refine Rg.plan_pure ?_ ?_ ?_); kernel_rfl; kernel_rfl; intro _ _|(with_reducible refine Rg.plan_take ?_ ?_ ?_); kernel_rfl; kernel_rfl; intro _ _|(with_reducible refine Rg.plan_keep ?_ ?_); kernel_rfl; intro K hK|refine hK _ _ (Rg.Keep.refl _) ?_; clear hK|refine hK _ _ (Rg.Keep.of_below (by assumption)) ?_; clear hK|(with_reducible refine Rg.plan_skip ?_ ?_); kernel_rfl|(with_reducible refine Rg.plan_done ?_)|(with_reducible refine Rg.calm_normal ?_))
   refine (add_any _ _ (boxed_length _) (rowKey_length _ hk _) _).mono ?_
   rintro e wC ⟨rfl, hC⟩
   refine hK _ _ (Rg.Keep.of_below hC) ?_
   clear hK
   have zA := hA.size
   have hAC : Below wr.heap.size wr wC := (Below.drew (Below.refl _ wr)).trans (hA.trans (hC.mono zA))
   have g0 : row? wC (w.heap.size + 1 + 1) = some (bvs (zeros 16)) := by rw [row?_below hAC (by omega)]; exact h0
   have gb : Below w.heap.size w wC := hb.trans (hAC.mono (by omega))
   clear h0 h1 h2 hb hA hC hAC zA hp
   go_wp2_with (first
    |(with_reducible refine Rg.plan_pure ?_ ?_ ?_); kernel_rfl; kernel_rfl; intro _ _|(with_reducible refine Rg.plan_take ?_ ?_ ?_); kernel_rfl; kernel_rfl; intro _ _|(with_reducible refine Rg.plan_keep ?_ ?_); kernel_rfl; intro K hK|refine hK _ _ (Rg.Keep.refl _) ?_; clear hK|refine hK _ _ (Rg.Keep.of_below (by assumption)) ?_; clear hK|(with_reducible refine Rg.plan_skip ?_ ?_); kernel_rfl|(with_reducible refine Rg.plan_done ?_)|(with_reducible refine Rg.calm_normal ?_))
   exact ret16 (w.heap.size + 1 + 1) (bvs (block key inp)) rfl rfl rfl (row?_setRow_eq g0) (by rw [bvs_size]; exact block_length _ _) ⟨rfl, below_setRow gb (by omega) _⟩
end Go.Proofs.YthjbmggpleliaaaGreatDoor

end
