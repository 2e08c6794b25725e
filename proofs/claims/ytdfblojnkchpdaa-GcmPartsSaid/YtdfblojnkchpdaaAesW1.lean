/- The walks of package aes: what each function computes, and that it touches nothing that stood. -/
import Derived.Test.YtdfblojnkchpdaaRows
import Derived.Test.YtdfblojnkchpdaaLibR
import Derived.Test.YtdfblojnkchpdaaAesM
namespace Go.Proofs.Ytdfblojnkchpdaa
open Go.RowKit Go.Rw Aes

theorem Ag16 : Agg Try.prog 22 16 := ⟨⟨_, Try.underlying22, rfl⟩, by kernel_rfl⟩
theorem Ag176 : Agg Try.prog 58 176 := ⟨⟨_, Try.underlying58, rfl⟩, by kernel_rfl⟩
theorem ld16 (x : Value) : Instr.loadAt 22 x = loadAgg 22 x := rfl
theorem st16 (x y : Value) : Instr.storeAt 22 x y = storeAgg 22 x y := rfl
theorem al16 : Instr.alloc 22 true (.tuple #[]) = allocAgg 22 := rfl
theorem rld16 (w : World) (b : Nat) (h : (row? w b).map (·.size) = some 16) : (loadAgg 22 (.pointer (some ⟨b, 0, none⟩))).run Try.prog w = .ok (.agg ((row? w b).getD #[])) w := load_rule Ag16 w b h
theorem rst16 (w : World) (b : Nat) (c' : Array Value) (h : (row? w b).map (·.size) = some 16) (hn : c'.size = 16) (h1 : allOne c' = true) : (storeAgg 22 (.pointer (some ⟨b, 0, none⟩)) (.agg c')).run Try.prog w = .ok () (w.setRow b c') := store_rule Ag16 w b c' h hn h1
theorem ral16 (w : World) : (allocAgg 22).run Try.prog w = .ok (.pointer (some ⟨w.heap.size, 0, none⟩)) (w.alloc (.cells (bvs (zeros 16)) 22)) := alloc_rule (n := 16) (by kernel_rfl) w
theorem ld176 (x : Value) : Instr.loadAt 58 x = loadAgg 58 x := rfl
theorem st176 (x y : Value) : Instr.storeAt 58 x y = storeAgg 58 x y := rfl
theorem al176 : Instr.alloc 58 true (.tuple #[]) = allocAgg 58 := rfl
theorem rld176 (w : World) (b : Nat) (h : (row? w b).map (·.size) = some 176) : (loadAgg 58 (.pointer (some ⟨b, 0, none⟩))).run Try.prog w = .ok (.agg ((row? w b).getD #[])) w := load_rule Ag176 w b h
theorem rst176 (w : World) (b : Nat) (c' : Array Value) (h : (row? w b).map (·.size) = some 176) (hn : c'.size = 176) (h1 : allOne c' = true) : (storeAgg 58 (.pointer (some ⟨b, 0, none⟩)) (.agg c')).run Try.prog w = .ok () (w.setRow b c') := store_rule Ag176 w b c' h hn h1
theorem ral176 (w : World) : (allocAgg 58).run Try.prog w = .ok (.pointer (some ⟨w.heap.size, 0, none⟩)) (w.alloc (.cells (bvs (zeros 176)) 58)) := alloc_rule (n := 176) (by kernel_rfl) w
theorem rst16p (w : World) (b o : Nat) (c' : Array Value) (_ : ((row? w b).map (·.size) == some 16) = false) (h : decide (o + 16 ≤ ((row? w b).getD #[]).size) = true) (h0 : (row? w b).isSome = true) (hn : c'.size = 16) (h1 : allOne c' = true) : (storeAgg 22 (.pointer (some ⟨b, o, none⟩)) (.agg c')).run Try.prog w = .ok () (w.setRow b (splice ((row? w b).getD #[]) o c')) := part_store_rule Ag16 w b o c' h h0 hn h1
theorem rld16p (w : World) (b o : Nat) (_ : ((row? w b).map (·.size) == some 16) = false) (h : decide (o + 16 ≤ ((row? w b).getD #[]).size) = true) (h0 : (row? w b).isSome = true) : (loadAgg 22 (.pointer (some ⟨b, o, none⟩))).run Try.prog w = .ok (.agg (((row? w b).getD #[]).extract o (o + 16))) w := part_rule Ag16 w b o h h0
attribute [local go_sem ↓] ld16 st16 al16 ld176 st176 al176 shift_shl8 shift_shr8 bvs_getElem?
attribute [local go_sem] rst16p rld16p rld16 rst16 ral16 rld176 rst176 ral176 setRow_alloc_at setRow_alloc_past setRow_drew bvs_setn

set_option maxHeartbeats 400000 in
theorem double_any (a : UInt8) (w : World) :
    Calls Try.prog 43 #[.int .u8 (n8 a : Nat)] w fun e w' => e = .returned (.int .u8 (n8 (double a) : Nat)) ∧ w = w' := by
  by_cases h : (a &&& 128 != 0) = true
  · have e : double a = shl8 a 1 ^^^ 27 := by rw [double, if_pos h]
    have E := Lib.hid e; clear e
    go_enter Try.func43, Try.ntmps43
    go_wp2
    go_ret
    exact ⟨by rw [E.out]; rfl, rfl⟩
  · have e : double a = shl8 a 1 := by rw [double, if_neg h]
    have E := Lib.hid e; clear e
    have h' : (a &&& 128 != 0) = false := by simpa using h
    clear h
    go_enter Try.func43, Try.ntmps43
    go_wp2
    go_ret
    exact ⟨by rw [E.out]; rfl, rfl⟩

theorem boxAt (a : UInt8) (h : n8 a < (⟨boxTab.toArray⟩ : ByteArray).size) : ((⟨boxTab.toArray⟩ : ByteArray)[n8 a]'h).toNat = n8 (box a) := by
  have h' : n8 a < boxTab.length := by rw [boxTab_length]; exact n8_lt a
  have e : box a = boxTab[n8 a] := by simp [box, nth, h']
  rw [e]; rfl
set_option maxHeartbeats 400000 in
set_option maxRecDepth 100000 in
theorem box_any (a : UInt8) (w : World) :
    Calls Try.prog 42 #[.int .u8 (n8 a : Nat)] w fun e w' => e = .returned (.int .u8 (n8 (box a) : Nat)) ∧ w = w' := by
  have hl := n8_lt a
  go_enter Try.func42, Try.ntmps42
  go_wp2
  go_ret
  exact ⟨congrArg (fun n : Nat => Ending.returned (.int .u8 n)) (boxAt a _), rfl⟩

theorem bel2 (w : World) (a b : Obj) : Below w.heap.size w ((w.alloc a).alloc b) := ((Below.refl _ _).alloc (Nat.le_refl _) _).alloc (by simp) _
theorem ret16 {fn : Func} {p : Tmp} {R : Ending → World → Prop} {a : Act} {w : World} (b : Nat) (c : Array Value) (hr : fn.results = #[.cell p 22]) (hp : a.tmps.getD p undef = .pointer (some ⟨b, 0, none⟩)) (hd : a.defers = [])
    (h : row? w b = some c) (hn : c.size = 16) (hR : R (.returned (.agg c)) w) : bodyPost Try.prog fn R .ret a w :=
  bodyPost_ret (results_row Ag16 hr _ _ b c hp h hn) hd hR
theorem ret176 {fn : Func} {p : Tmp} {R : Ending → World → Prop} {a : Act} {w : World} (b : Nat) (c : Array Value) (hr : fn.results = #[.cell p 58]) (hp : a.tmps.getD p undef = .pointer (some ⟨b, 0, none⟩)) (hd : a.defers = [])
    (h : row? w b = some c) (hn : c.size = 176) (hR : R (.returned (.agg c)) w) : bodyPost Try.prog fn R .ret a w :=
  bodyPost_ret (results_row Ag176 hr _ _ b c hp h hn) hd hR

set_option maxHeartbeats 400000 in
theorem boxed_any (s : List UInt8) (hs : s.length = 16) (w : World) :
    Calls Try.prog 39 #[.agg (bvs s)] w fun e w' => e = .returned (.agg (bvs (boxed s))) ∧ Below w.heap.size w w' := by
  go_enter Try.func39, Try.ntmps39
  go_wp2_with fail
  go_loopw [4] (fun v wr => ∃ k : Nat, k ≤ 16 ∧ v = .int .i64 k ∧ wr = (w.alloc (.cells (bvs s) 22)).alloc (.cells (bvs (upto (boxedF s) (zeros 16) 16 k)) 22)) (fun v _ => 16 - (intOf v).toNat)
  case atStart => exact ⟨0, by omega, rfl, by rw [upto_zero _ _ _ (zeros_length _)]⟩
  case round =>
    obtain ⟨k, hk, rfl, rfl⟩ := hrel
    by_cases hlt : k < 16
    · have g := upto_set (boxedF s) (zeros 16) 16 k hlt
      unfold boxedF at g
      have G := Lib.hid g; clear g
      go_wp2_with (go_at_call 42; refine (box_any _ _).mono ?_; rintro e w' ⟨rfl, rfl⟩)
      go_roundw
      case rel => exact ⟨k + 1, by omega, by go_num, by first | rw [G.out] | (unfold boxedF; rw [← G.out])⟩
      case measure => simp [intOf]; omega
    · obtain rfl : k = 16 := by omega
      go_wp2_with fail
      refine ret16 (w.heap.size + 1) (bvs (boxed s)) rfl rfl rfl ?_ (by rw [bvs_size]; exact boxed_length _) ⟨rfl, bel2 _ _ _⟩
      rw [row?_alloc_at _ _ _ _ (by simp), upto_full]; rfl

set_option maxHeartbeats 400000 in
theorem add_any (s k : List UInt8) (hs : s.length = 16) (hk : k.length = 16) (w : World) :
    Calls Try.prog 37 #[.agg (bvs s), .agg (bvs k)] w fun e w' => e = .returned (.agg (bvs (add s k))) ∧ Below w.heap.size w w' := by
  go_enter Try.func37, Try.ntmps37
  go_wp2_with fail
  go_loopw [6] (fun v wr => ∃ j : Nat, j ≤ 16 ∧ v = .int .i64 j ∧ row? wr w.heap.size = some (bvs (upto (addF s k) s 16 j)) ∧ row? wr (w.heap.size + 1) = some (bvs k) ∧
      row? wr (w.heap.size + 2) = some (bvs (zeros 16)) ∧ Below w.heap.size w wr) (fun v _ => 16 - (intOf v).toNat)
  case atStart => exact ⟨0, by omega, rfl, by rw [upto_zero _ _ _ hs]; simp [go_sem], by simp [go_sem], by simp [go_sem], (bel2 _ _ _).alloc (by simp; omega) _⟩
  case round =>
    obtain ⟨j, hj, rfl, h0, h1, h2, hb⟩ := hrel
    by_cases hlt : j < 16
    · have g := upto_set (addF s k) s 16 j hlt
      have ghi := upto_hi (f := addF s k) (z := s) hlt (Nat.le_refl j)
      have G := Lib.hid g; clear g
      have H0 := Lib.hid h0
      have H1 := Lib.hid h1
      have H2 := Lib.hid h2
      have c0 := row?_cell h0
      have c1 := row?_cell h1
      have f0 := row?_frozen h0
      clear h0 h1 h2
      go_wp2_with fail
      refine Rg.wp_region_plan (Rg.row [(0, 3), (1, 3), (2, 0), (3, 3), (4, 3), (5, 0), (6, 3), (7, 3)] [8]) [8] (by kernel_rfl) (by kernel_rfl) ?_
      simp only [Rg.row, Rg.PT.map, List.map_cons, List.map_nil, List.getD_cons_zero, List.getD_cons_succ]
      go_wp2_with (first
        | ((with_reducible refine Rg.plan_pure ?_ ?_ ?_); kernel_rfl; kernel_rfl; intro _ _)
        | ((with_reducible refine Rg.plan_take ?_ ?_ ?_); kernel_rfl; kernel_rfl; intro _ _)
        | ((with_reducible refine Rg.plan_keep ?_ ?_); kernel_rfl; intro K hK)
        | (refine hK _ _ (Rg.Keep.refl _) ?_; clear hK)
        | (refine hK _ _ (Rg.Keep.of_below (by assumption)) ?_; clear hK)
        | ((with_reducible refine Rg.plan_skip ?_ ?_); kernel_rfl)
        | (with_reducible refine Rg.plan_done ?_)
        | (with_reducible refine Rg.calm_normal ?_))
      go_roundw
      case rel =>
        refine ⟨j + 1, by omega, by go_num, ?_, ?_, ?_, (hb.setCell (Nat.le_refl _) _).drew⟩
        · rw [row?_drew, row?_setCell_eq H0.out, bvs_setn]; exact congrArg (fun l => some (bvs l)) G.out
        · rw [row?_drew, row?_setCell_ne _ _ _ _ (by simp)]; exact H1.out
        · rw [row?_drew, row?_setCell_ne _ _ _ _ (by simp)]; exact H2.out
      case measure => simp [intOf]; omega
    · obtain rfl : j = 16 := by omega
      rw [upto_full] at h0
      go_wp2_with fail
      refine ret16 (w.heap.size + 2) (bvs (add s k)) rfl rfl rfl (row?_setRow_eq h2) (by rw [bvs_size]; exact add_length _ _) ⟨rfl, ?_⟩
      exact below_setRow hb (by omega) _

set_option maxHeartbeats 1000000 in
theorem mixed_any (s : List UInt8) (hs : s.length = 16) (w : World) :
    Calls Try.prog 38 #[.agg (bvs s)] w fun e w' => e = .returned (.agg (bvs (mixed s))) ∧ Below w.heap.size w w' := by
  go_enter Try.func38, Try.ntmps38
  go_wp2_with fail
  go_loopw [8] (fun v wr => ∃ j : Nat, j ≤ 16 ∧ v = .int .i64 j ∧ row? wr w.heap.size = some (bvs s) ∧ row? wr (w.heap.size + 1) = some (bvs (upto (mixedF s) (zeros 16) 16 j)) ∧ Below w.heap.size w wr) (fun v _ => 16 - (intOf v).toNat)
  case atStart => exact ⟨0, by omega, rfl, by simp [go_sem], by rw [upto_zero _ _ _ (zeros_length _)]; simp [go_sem], bel2 _ _ _⟩
  case round =>
    obtain ⟨j, hj, rfl, h0, h1, hb⟩ := hrel
    by_cases hlt : j < 16
    · have g := upto_set (mixedF s) (zeros 16) 16 j hlt
      have G := Lib.hid g; clear g
      have H0 := Lib.hid h0
      have H1 := Lib.hid h1
      have c0 := row?_cell h0
      have c1 := row?_cell h1
      have f1 := row?_frozen h1
      clear h0 h1
      go_wp2_with fail
      refine Rg.wp_region_plan (Rg.row [(0, 3), (1, 3), (2, 3), (3, 3), (4, 0), (5, 3), (6, 3), (7, 3), (8, 3), (9, 3), (10, 3), (11, 0), (12, 3), (13, 3)] []) [] (by kernel_rfl) (by kernel_rfl) ?_
      simp only [Rg.row, Rg.PT.map, List.map_nil, List.getD_cons_zero, List.getD_cons_succ]
      go_wp2_with (first
        | ((with_reducible refine Rg.plan_pure ?_ ?_ ?_); kernel_rfl; kernel_rfl; intro _ _)
        | ((with_reducible refine Rg.plan_take ?_ ?_ ?_); kernel_rfl; kernel_rfl; intro _ _)
        | ((with_reducible refine Rg.plan_keep ?_ ?_); kernel_rfl; intro K hK)
        | (refine hK _ _ (Rg.Keep.refl _) ?_; clear hK)
        | (refine hK _ _ (Rg.Keep.of_below (by assumption)) ?_; clear hK)
        | ((with_reducible refine Rg.plan_skip ?_ ?_); kernel_rfl)
        | (with_reducible refine Rg.plan_done ?_)
        | (with_reducible refine Rg.calm_normal ?_))
      refine Rg.wp_region_plan (Rg.row [(0, 3), (1, 3), (3, 3), (6, 3), (8, 3), (9, 3), (10, 3), (11, 3), (12, 3), (13, 3), (14, 0), (16, 3), (17, 3), (18, 3), (19, 3), (20, 3), (21, 3), (22, 0), (2, 1), (4, 1), (5, 3), (7, 3), (15, 3), (23, 3), (24, 3)] [25]) [25] (by kernel_rfl) (by kernel_rfl) ?_
      simp only [Rg.row, Rg.PT.map, List.map_cons, List.map_nil, List.getD_cons_zero, List.getD_cons_succ]
      go_wp2_with (first
        | (go_at_call 43; refine (double_any _ _).mono ?_; rintro e w' ⟨rfl, rfl⟩)
        | ((with_reducible refine Rg.plan_pure ?_ ?_ ?_); kernel_rfl; kernel_rfl; intro _ _)
        | ((with_reducible refine Rg.plan_take ?_ ?_ ?_); kernel_rfl; kernel_rfl; intro _ _)
        | ((with_reducible refine Rg.plan_keep ?_ ?_); kernel_rfl; intro K hK)
        | (refine hK _ _ (Rg.Keep.refl _) ?_; clear hK)
        | (refine hK _ _ (Rg.Keep.of_below (by assumption)) ?_; clear hK)
        | ((with_reducible refine Rg.plan_skip ?_ ?_); kernel_rfl)
        | (with_reducible refine Rg.plan_done ?_)
        | (with_reducible refine Rg.calm_normal ?_))
      go_roundw
      case rel =>
        refine ⟨j + 1, by omega, by go_num, ?_, ?_, ((hb.setCell (by simp) _).drew).drew⟩
        · rw [row?_drew, row?_drew, row?_setCell_ne _ _ _ _ (by simp)]; exact H0.out
        · rw [row?_drew, row?_drew, row?_setCell_eq H1.out, bvs_setn]; exact congrArg (fun l => some (bvs l)) G.out
      case measure => simp [intOf]; omega
    · obtain rfl : j = 16 := by omega
      rw [upto_full] at h1
      go_wp2_with fail
      refine ret16 (w.heap.size + 1) (bvs (mixed s)) rfl rfl rfl (row?_setRow_eq h1) (by rw [bvs_size]; exact mixed_length _) ⟨rfl, ?_⟩
      exact below_setRow hb (by omega) _

end Go.Proofs.Ytdfblojnkchpdaa
