/- The law FrameJoins, walked. -/
import Derived.Test.YtipniobgijdlkaaMgj15
import Derived.Test.YtipniobgijdlkaaLibU
import Derived.Test.YtipniobgijdlkaaMgjFrmKL
import Derived.Test.YtipniobgijdlkaaMgjGrow
import Derived.Test.YtipniobgijdlkaaLibV
namespace Go.Proofs.Ytipniobgijdlkaa
open Go.RowKit Go.Rw Frm Hdr
attribute [local go_sem high] and_62b
attribute [local go_sem ↓] ldFF stFF alFF bdFQ
attribute [local go_sem] rldFF rstFF ralFF setRow_alloc_at setRow_alloc_past setRow_drew buildRg buildF1
theorem buildFm (k : Int) (n : Nat) (w : World) : (buildQ 28 #[(0, .int .i64 k), (1, .int .u64 (n : Nat))]).run Try.prog w = .ok (.agg (fvA k n 0 (.slice none 0 0) 0 0 false (.slice none 0 0) (.slice none 0 0) (.slice none 0 0))) w := Go.run_build w _ _ _ (by kernel_rfl)
attribute [local go_sem] buildFm
theorem cfGrow (args : Array Value) (w : World) : (callFunc 23 args).run Try.prog w = .ok (.enter 23 args) w := by simp [go_sem]
theorem bF8 (n : Nat) (fin : Bool) (B m : Nat) (w : World) : (Instr.build 28 #[(0, .int .i64 8), (4, .int .u64 (n : Nat)), (6, .bool fin), (7, .slice (some ⟨B, 0, none⟩) m m)]).run Try.prog w = .ok (.agg (fvA 8 0 0 (.slice none 0 0) n 0 fin (.slice (some ⟨B, 0, none⟩) m m) (.slice none 0 0) (.slice none 0 0))) w := Go.run_build w _ _ _ (by kernel_rfl)
theorem bF6 (o : Nat) (B m : Nat) (w : World) : (Instr.build 28 #[(0, .int .i64 6), (5, .int .u64 (o : Nat)), (7, .slice (some ⟨B, 0, none⟩) m m)]).run Try.prog w = .ok (.agg (fvA 6 0 0 (.slice none 0 0) 0 o false (.slice (some ⟨B, 0, none⟩) m m) (.slice none 0 0) (.slice none 0 0))) w := Go.run_build w _ _ _ (by kernel_rfl)
theorem bF2 (d : Nat) (B : Nat) (w : World) : (Instr.build 28 #[(0, .int .i64 2), (2, .int .u64 (d : Nat)), (3, .slice (some ⟨B, 0, none⟩) 1 1)]).run Try.prog w = .ok (.agg (fvA 2 0 d (.slice (some ⟨B, 0, none⟩) 1 1) 0 0 false (.slice none 0 0) (.slice none 0 0) (.slice none 0 0))) w := Go.run_build w _ _ _ (by kernel_rfl)
theorem bF26 (B m : Nat) (w : World) : (Instr.build 28 #[(0, .int .i64 26), (7, .slice (some ⟨B, 0, none⟩) m m)]).run Try.prog w = .ok (.agg (fvA 26 0 0 (.slice none 0 0) 0 0 false (.slice (some ⟨B, 0, none⟩) m m) (.slice none 0 0) (.slice none 0 0))) w := Go.run_build w _ _ _ (by kernel_rfl)
theorem ix8 (B j : Nat) (hj : j < 8) (w : World) : (Instr.indexAt 32 (.slice (some ⟨B, 0, none⟩) 8 8) (.int .u64 (j : Nat))).run Try.prog w = .ok (.pointer (some ⟨B, j * 10, none⟩)) w := by
  simp [go_sem]
  omega
set_option maxRecDepth 400000 in
set_option maxHeartbeats 8000000 in
theorem joinsLaw_any (ns : List Nat) (vn : Value) (w : World) (hs : Su w vn ns) :
    Calls Try.prog 10 #[vn] w fun e w' => e = .returned (.bool true) ∧ Below w.heap.size w w' := by
  obtain ⟨i0, hi0, hz0, hz1, hz2⟩ := info_parts infoFr
  obtain ⟨u0, hu0, hy0, hy1, hy2⟩ := info_parts info8
  obtain ⟨r0, hr0, hrz, hr1, hr2⟩ := info_parts infoRg
  obtain ⟨an, cn, rfl, hlt, hp⟩ := id hs
  have HS := Lib.hid hs
  have HP := Lib.hid hp
  have HLT := Lib.hid hlt
  clear hs hp hlt
  go_enter Try.func10, Try.ntmps10
  by_cases hl20 : 20 < ns.length
  · have p : decide ((20 : Int) < (ns.length : Int)) = true := decide_eq_true (by omega)
    clear hl20
    go_wp2_with fail
    refine (fawake_any w).mono ?_
    rintro e wx ⟨rfl, hx⟩
    go_wp2_with fail
    go_ret
    exact ⟨rfl, hx⟩
  have p : decide ((20 : Int) < (ns.length : Int)) = false := decide_eq_false (by omega)
  by_cases hl0 : ns.length = 0
  · have p0 : ((ns.length : Int) == 0) = true := by rw [beq_iff_eq]; omega
    clear hl20 hl0
    go_wp2_with fail
    refine (fawake_any w).mono ?_
    rintro e wx ⟨rfl, hx⟩
    go_wp2_with fail
    go_ret
    exact ⟨rfl, hx⟩
  have p0 : ((ns.length : Int) == 0) = false := by rw [beq_eq_false_iff_ne]; omega
  obtain ⟨bn, on, rfl, hcell⟩ := HP.out (by omega)
  have HC := Lib.hid hcell
  have HL := Lib.hid (And.intro (show ns.length ≤ 20 by omega) (show 1 ≤ ns.length by omega))
  clear hcell HP hl20 hl0
  go_wp2_with fail
  go_loopw [3, 4, 5, 6, 7] (fun v3 v4 v5 _ _ wr => ∃ (i : Nat) (fs : List Fr), i ≤ ns.length ∧ v5 = .int .i64 (i : Nat) ∧ fs.length = i ∧ (∀ f, f ∈ fs → GoodF f) ∧ OF2 wr w.heap.size 28 v4 fs v3.ownBlock ∧ wr.ownsRow w.heap.size 5 1 v3 (cat fs).length ((cat fs).map bv) ∧ Below w.heap.size w wr) (fun _ _ v5 _ _ _ => ns.length - (intOf v5).toNat)
  case atStart => exact ⟨0, [], by omega, rfl, rfl, fun f hf => by simp at hf, OF2.nil _ _ _ _, World.ownsRow_nil _ _ _ _, Below.refl _ _⟩
  case round =>
    obtain ⟨i, fs, hi, rfl, hfl, hgood, of, ob, bw⟩ := hrel
    have OF := Lib.hid of
    have OB := Lib.hid ob
    have BW := Lib.hid bw
    have HG := Lib.hid hgood
    have HFL := Lib.hid hfl
    clear hfl
    obtain ⟨a3, x3, rfl, -, -, -⟩ := id (Own.sl ob)
    obtain ⟨a4, x4, rfl⟩ := of.fs.shape
    by_cases hlt : i < ns.length
    case pos =>
      have p2 : decide (i < ns.length) = true := decide_eq_true hlt
      have c0 := below_cell bw (HC.out i hlt) (cell_lt (HC.out i hlt))
      have x64 := HLT.out i hlt
      obtain ⟨x, hx⟩ : ∃ x, nu ns i = x := ⟨_, rfl⟩
      rw [hx] at c0 x64
      have hm := bw.size
      clear of ob bw hgood hx
      obtain ⟨n, hn, hnl⟩ : ∃ n : Nat, (x : Int) / 8 % 4611686018427387904 = n ∧ n < 4611686018427387904 := ⟨x / 8 % 4611686018427387904, by omega, by omega⟩
      have HN := Lib.hid hnl
      clear hnl
      have c0d : wr.drew.cell? ⟨bn, on + i, none⟩ = some (.int .u64 (x : Nat)) := c0
      go_wp2_with fail
      obtain ⟨fin, hfin⟩ : ∃ fin, ((n : Int) % 2 == 0) = fin := ⟨_, rfl⟩
      obtain ⟨a70, h70, l70⟩ : ∃ a : Nat, (n : Int) % 70 = a ∧ a < 70 := ⟨n % 70, by omega, by omega⟩
      obtain ⟨a1000, h1000, l1000⟩ : ∃ a : Nat, (n : Int) % 1000 = a ∧ a < 1000 := ⟨n % 1000, by omega, by omega⟩
      obtain ⟨a61, h61, l61⟩ : ∃ a : Nat, (n : Int) % 2305843009213693952 = a ∧ a < 2305843009213693952 := ⟨n % 2305843009213693952, by omega, by omega⟩
      obtain ⟨a9, h9, l9⟩ : ∃ a : Nat, (n : Int) % 9 = a ∧ a < 9 := ⟨n % 9, by omega, by omega⟩
      obtain ⟨a300, h300, l300⟩ : ∃ a : Nat, (n : Int) % 300 = a ∧ a < 300 := ⟨n % 300, by omega, by omega⟩
      obtain ⟨hf, h2, l2⟩ : ∃ a : Nat, (n : Int) / 2 = a ∧ a ≤ n := ⟨n / 2, by omega, by omega⟩
      obtain ⟨a8, h8, l8⟩ : ∃ a : Nat, (x : Int) % 8 = a ∧ a < 8 := ⟨x % 8, by omega, by omega⟩
      have HA := Lib.hid (And.intro l70 (And.intro l1000 (And.intro l61 (And.intro l9 (And.intro l300 (And.intro l2 l8))))))
      clear l70 l1000 l61 l9 l300 l2 l8
      refine Rg.wp_region_flo [(0, 3), (1, 3), (2, 3), (3, 3), (4, 3), (5, 3), (6, 3), (7, 3), (8, 3), (9, 3), (10, 3), (11, 3), (12, 3), (13, 3), (14, 3), (17, 3), (18, 3), (19, 3), (20, 3), (21, 3), (24, 3), (25, 3), (26, 3), (27, 3), (28, 3), (31, 3), (32, 3), (33, 3), (36, 3), (37, 3), (39, 3), (40, 3), (41, 3), (42, 0), (43, 3)] [
          ⟨15, 50, [], false, JD wr.heap.size a70⟩,
          ⟨16, 51, [15], false, JF wr.heap.size⟩,
          ⟨22, 57, [15], false, JD wr.heap.size a9⟩,
          ⟨23, 58, [22], false, JF wr.heap.size⟩,
          ⟨29, 64, [], false, JR wr.heap.size hf n⟩,
          ⟨30, 65, [29], false, JF wr.heap.size⟩,
          ⟨34, 69, [22], false, JD wr.heap.size 8⟩,
          ⟨35, 70, [34], false, JF wr.heap.size⟩,
          ⟨38, 73, [16, 23, 30, 35], false, JS wr.heap.size⟩,
          ⟨44, 79, [38], false, JP wr.heap.size a8⟩,
          ⟨45, 80, [44], false, JF wr.heap.size⟩,
          ⟨46, 7, [], true, JZ⟩] [(15, 50, []), (16, 51, [15]), (22, 57, [15]), (23, 58, [22]), (29, 64, []), (30, 65, [29]), (34, 69, [22]), (35, 70, [34]), (38, 73, [16, 23, 30, 35]), (44, 79, [38]), (45, 80, [44]), (46, 7, [])] [47] (by kernel_rfl) (by kernel_rfl) rfl ?_
      simp only [Rg.row, Rg.PT.map, List.getD_cons_zero, List.getD_cons_succ]
      go_wp2_with (first
        | ((with_reducible refine Rg.plan_pure ?_ ?_ ?_); kernel_rfl; kernel_rfl; intro _ _)
        | ((with_reducible refine Rg.plan_take ?_ ?_ ?_); kernel_rfl; kernel_rfl; intro _ _)
        | ((with_reducible refine Rg.plan_keep ?_ ?_); kernel_rfl; intro K hK)
        | (refine hK _ _ (Rg.Keep.refl _) ?_; clear hK)
        | (refine hK _ _ (Rg.Keep.of_below (by assumption)) ?_; clear hK)
        | ((with_reducible refine Rg.plan_skip ?_ ?_); kernel_rfl)
        | (with_reducible refine Rg.plan_done ?_)
        | (with_reducible refine Rg.calm_normal ?_))
      refine Rg.phase_done (Rg.phase_mk ?_ ?_ ?_)
      · refine List.forall_mem_cons.2 ⟨?_, List.forall_mem_cons.2 ⟨?_, List.forall_mem_cons.2 ⟨?_, List.forall_mem_cons.2 ⟨?_, List.forall_mem_cons.2 ⟨?_, List.forall_mem_cons.2 ⟨?_, List.forall_mem_cons.2 ⟨?_, List.forall_mem_cons.2 ⟨?_, List.forall_mem_cons.2 ⟨?_, List.forall_mem_cons.2 ⟨?_, List.forall_mem_cons.2 ⟨?_, List.forall_mem_cons.2 ⟨?_, fun r hr => (by cases hr)⟩⟩⟩⟩⟩⟩⟩⟩⟩⟩⟩⟩
        · exact fun v w1 w2 hb h => JD.stable hb h
        · exact fun v w1 w2 hb h => JF.stable hb h
        · exact fun v w1 w2 hb h => JD.stable hb h
        · exact fun v w1 w2 hb h => JF.stable hb h
        · exact fun v w1 w2 hb h => JR.stable hb h
        · exact fun v w1 w2 hb h => JF.stable hb h
        · exact fun v w1 w2 hb h => JD.stable hb h
        · exact fun v w1 w2 hb h => JF.stable hb h
        · exact fun v w1 w2 hb h => JS.stable hb h
        · exact fun v w1 w2 hb h => JP.stable hb h
        · exact fun v w1 w2 hb h => JF.stable hb h
        · exact fun v w1 w2 hb h => JZ.stable hb h
      · refine List.forall_mem_cons.2 ⟨?_, List.forall_mem_cons.2 ⟨?_, List.forall_mem_cons.2 ⟨?_, List.forall_mem_cons.2 ⟨?_, List.forall_mem_cons.2 ⟨?_, List.forall_mem_cons.2 ⟨?_, List.forall_mem_cons.2 ⟨?_, List.forall_mem_cons.2 ⟨?_, List.forall_mem_cons.2 ⟨?_, List.forall_mem_cons.2 ⟨?_, List.forall_mem_cons.2 ⟨?_, List.forall_mem_cons.2 ⟨?_, fun r hr => (by cases hr)⟩⟩⟩⟩⟩⟩⟩⟩⟩⟩⟩⟩
        · with_reducible refine Rg.ph_call 15 50 [] (JD wr.heap.size a70) (xs := #[.tmp 46, .tmp 49]) (ts := #[3, 3]) (args := #[.int .i64 (a70 : Nat), .int .i64 (a1000 : Nat)]) cfGrow ?_ ?_ ?_ wr.heap.size ?_ ?_
          · kernel_rfl
          · kernel_rfl
          · intro us; kernel_rfl
          · simp
          · intro wx hM
            refine (grow_row (a70) (a1000) (by have := HA.out; omega) (by have := HA.out; omega) wx).mono ?_
            rintro e wy ⟨l, rfl, hl, hr, hy⟩
            exact ⟨_, rfl, ⟨l, wx.heap.size, by rw [hl], hl, hM, hr⟩, hy⟩
        · with_reducible refine Rg.ph_gen 16 51 [15] false (JF wr.heap.size) ?_ wr.heap.size ?_ ?_
          · kernel_rfl
          · simp
          · intro us wx hM hdep
            have d1 : JD wr.heap.size a70 (us 15) wx := hdep _ (List.getElem_mem (n := 0) (by simp)) (by simp)
            obtain ⟨l, B, e1, hl, hB, hr⟩ := d1
            refine ⟨_, wx, Rg.run_exec_build (parts := #[(0, .const (.int .i64 8)), (4, .tmp 40), (6, .tmp 43), (7, .tmp 50)]) (vs := #[(0, .int .i64 8), (4, .int .u64 (n : Nat)), (6, .bool fin), (7, us 15)]) (t := 28) ?_ ?_ (by rw [e1]; exact bF8 n fin B l.length wx), ⟨_, _, rfl, fvn_dat 8 n 0 fin l hB hr, good_8 n fin l (by have := HN.out; omega) (by have := HA.out; omega)⟩, Below.refl _ _, (fun h => by cases h)⟩
            · kernel_rfl
            · kernel_rfl
        · with_reducible refine Rg.ph_call 22 57 [15] (JD wr.heap.size a9) (xs := #[.tmp 56, .const (.int .i64 3)]) (ts := #[3, 3]) (args := #[.int .i64 (a9 : Nat), .int .i64 3]) cfGrow ?_ ?_ ?_ wr.heap.size ?_ ?_
          · kernel_rfl
          · kernel_rfl
          · intro us; kernel_rfl
          · simp
          · intro wx hM
            refine (grow_row (a9) (3) (by have := HA.out; omega) (by omega) wx).mono ?_
            rintro e wy ⟨l, rfl, hl, hr, hy⟩
            exact ⟨_, rfl, ⟨l, wx.heap.size, by rw [hl], hl, hM, hr⟩, hy⟩
        · with_reducible refine Rg.ph_gen 23 58 [22] false (JF wr.heap.size) ?_ wr.heap.size ?_ ?_
          · kernel_rfl
          · simp
          · intro us wx hM hdep
            have d1 : JD wr.heap.size a9 (us 22) wx := hdep _ (List.getElem_mem (n := 2) (by simp)) (by simp)
            obtain ⟨l, B, e1, hl, hB, hr⟩ := d1
            refine ⟨_, wx, Rg.run_exec_build (parts := #[(0, .const (.int .i64 6)), (5, .tmp 53), (7, .tmp 57)]) (vs := #[(0, .int .i64 6), (5, .int .u64 ((n : Int) % 2305843009213693952)), (7, us 22)]) (t := 28) ?_ ?_ (by rw [e1, h61]; exact bF6 a61 B l.length wx), ⟨_, _, rfl, fvn_dat 6 0 a61 false l hB hr, good_6 a61 l (by have := HA.out; omega) (by have := HA.out; omega)⟩, Below.refl _ _, (fun h => by cases h)⟩
            · kernel_rfl
            · kernel_rfl
        · with_reducible refine Rg.ph_gen 29 64 [] false (JR wr.heap.size hf n) ?_ wr.heap.size ?_ ?_
          · kernel_rfl
          · simp
          · intro us wx hM hdep
            refine ⟨_, _, Rg.run_exec_bslice 26 58 2 #[(0, .tmp 63)] [.agg #[.int .u64 (hf : Nat), .int .u64 (n : Nat)]] ?_ (by decide) r0 _ Try.underlying26 hr0 hrz hr1 (by simp) (by simp) ?_ ?_, ⟨wx.heap.size, rfl, hM, row?_alloc_at _ _ _ _ rfl⟩, (Below.refl _ _).alloc (Nat.le_refl _) _, (fun h => by cases h)⟩
            · kernel_rfl
            · kernel_rfl
            · intro v hv; rw [List.mem_singleton] at hv; rw [hv]; rfl
        · with_reducible refine Rg.ph_gen 30 65 [29] false (JF wr.heap.size) ?_ wr.heap.size ?_ ?_
          · kernel_rfl
          · simp
          · intro us wx hM hdep
            have d1 : JR wr.heap.size hf n (us 29) wx := hdep _ (List.getElem_mem (n := 4) (by simp)) (by simp)
            obtain ⟨B, e1, hB, hr⟩ := d1
            refine ⟨_, wx, Rg.run_exec_build (parts := #[(0, .const (.int .i64 2)), (2, .tmp 59), (3, .tmp 64)]) (vs := #[(0, .int .i64 2), (2, .int .u64 (n : Nat)), (3, us 29)]) (t := 28) ?_ ?_ (by rw [e1]; exact bF2 n B wx), ⟨_, _, rfl, fvn_rs 2 n hf n hB hr, good_2 hf n (by have := HA.out; omega) (by have := HN.out; omega)⟩, Below.refl _ _, (fun h => by cases h)⟩
            · kernel_rfl
            · kernel_rfl
        · with_reducible refine Rg.ph_call 34 69 [22] (JD wr.heap.size 8) (xs := #[.const (.int .i64 8), .tmp 68]) (ts := #[3, 3]) (args := #[.int .i64 8, .int .i64 (a300 : Nat)]) cfGrow ?_ ?_ ?_ wr.heap.size ?_ ?_
          · kernel_rfl
          · kernel_rfl
          · intro us; kernel_rfl
          · simp
          · intro wx hM
            refine (grow_row (8) (a300) (by omega) (by have := HA.out; omega) wx).mono ?_
            rintro e wy ⟨l, rfl, hl, hr, hy⟩
            exact ⟨_, rfl, ⟨l, wx.heap.size, by rw [hl], hl, hM, hr⟩, hy⟩
        · with_reducible refine Rg.ph_gen 35 70 [34] false (JF wr.heap.size) ?_ wr.heap.size ?_ ?_
          · kernel_rfl
          · simp
          · intro us wx hM hdep
            have d1 : JD wr.heap.size 8 (us 34) wx := hdep _ (List.getElem_mem (n := 6) (by simp)) (by simp)
            obtain ⟨l, B, e1, hl, hB, hr⟩ := d1
            refine ⟨_, wx, Rg.run_exec_build (parts := #[(0, .const (.int .i64 26)), (7, .tmp 69)]) (vs := #[(0, .int .i64 26), (7, us 34)]) (t := 28) ?_ ?_ (by rw [e1]; exact bF26 B l.length wx), ⟨_, _, rfl, fvn_dat 26 0 0 false l hB hr, good_26 l hl⟩, Below.refl _ _, (fun h => by cases h)⟩
            · kernel_rfl
            · kernel_rfl
        · with_reducible refine Rg.ph_gen 38 73 [16, 23, 30, 35] false (JS wr.heap.size) ?_ wr.heap.size ?_ ?_
          · kernel_rfl
          · simp
          · intro us wx hM hdep
            have d1 : JF wr.heap.size (us 16) wx := hdep _ (List.getElem_mem (n := 1) (by simp)) (by simp)
            have d2 : JF wr.heap.size (us 23) wx := hdep _ (List.getElem_mem (n := 3) (by simp)) (by simp)
            have d3 : JF wr.heap.size (us 30) wx := hdep _ (List.getElem_mem (n := 5) (by simp)) (by simp)
            have d4 : JF wr.heap.size (us 35) wx := hdep _ (List.getElem_mem (n := 7) (by simp)) (by simp)
            obtain ⟨A3, f3, e3, v3, g3⟩ := d1
            obtain ⟨A4, f4, e4, v4, g4⟩ := d2
            obtain ⟨A5, f5, e5, v5, g5⟩ := d3
            obtain ⟨A6, f6, e6, v6, g6⟩ := d4
            have q0 := fvn_plain wr.heap.size wx 1 0
            have q1 := fvn_plain wr.heap.size wx 16 n
            have q2 := fvn_plain wr.heap.size wx 25 n
            have q7 := fvn_plain wr.heap.size wx 28 n
            have hn2 : n ≤ 4611686018427387903 := by have := HN.out; omega
            obtain ⟨A0, hA0⟩ : ∃ A, (fvA 1 0 0 (.slice none 0 0) 0 0 false (.slice none 0 0) (.slice none 0 0) (.slice none 0 0)) = A := ⟨_, rfl⟩
            obtain ⟨A1, hA1⟩ : ∃ A, (fvA 16 n 0 (.slice none 0 0) 0 0 false (.slice none 0 0) (.slice none 0 0) (.slice none 0 0)) = A := ⟨_, rfl⟩
            obtain ⟨A2, hA2⟩ : ∃ A, (fvA 25 n 0 (.slice none 0 0) 0 0 false (.slice none 0 0) (.slice none 0 0) (.slice none 0 0)) = A := ⟨_, rfl⟩
            obtain ⟨A7, hA7⟩ : ∃ A, (fvA 28 n 0 (.slice none 0 0) 0 0 false (.slice none 0 0) (.slice none 0 0) (.slice none 0 0)) = A := ⟨_, rfl⟩
            rw [hA0] at q0
            rw [hA1] at q1
            rw [hA2] at q2
            rw [hA7] at q7
            have row := row?_alloc_at wx (([A0, A1, A2, A3, A4, A5, A6, A7].map Value.agg).flatMap fun v => v.cells.toList).toArray 28 wx.heap.size rfl
            have bA := (Below.refl wx.heap.size wx).alloc (Nat.le_refl _) (.cells (([A0, A1, A2, A3, A4, A5, A6, A7].map Value.agg).flatMap fun v => v.cells.toList).toArray 28)
            refine ⟨_, _, Rg.run_exec_bslice 32 28 10 #[(0, .tmp 35), (1, .tmp 37), (2, .tmp 39), (3, .tmp 51), (4, .tmp 58), (5, .tmp 65), (6, .tmp 70), (7, .tmp 72)] ([A0, A1, A2, A3, A4, A5, A6, A7].map Value.agg) ?_ (by decide) i0 _ Try.underlying32 hi0 hz0 hz1 (by simp) (by simp) ?_ ?_, ⟨wx.heap.size, rfl, [A0, A1, A2, A3, A4, A5, A6, A7], rfl, ?_, ?_⟩, bA, (fun h => by cases h)⟩
            · kernel_rfl
            · simp only [List.map_cons, List.map_nil]
              rw [← e3, ← e4, ← e5, ← e6, ← hA0, ← hA1, ← hA2, ← hA7]
              kernel_rfl
            · intro v hv
              simp only [List.map_cons, List.map_nil, List.mem_cons, List.not_mem_nil, or_false] at hv
              rcases hv with rfl | rfl | rfl | rfl | rfl | rfl | rfl | rfl
              · exact q0.size.1
              · exact q1.size.1
              · exact q2.size.1
              · exact v3.size.1
              · exact v4.size.1
              · exact v5.size.1
              · exact v6.size.1
              · exact q7.size.1
            · rw [row]
              congr 2
            · intro k hk
              match k, hk with
              | 0, _ => exact ⟨_, q0.below bA, good_1⟩
              | 1, _ => exact ⟨_, q1.below bA, good_n 16 n (by omega) hn2⟩
              | 2, _ => exact ⟨_, q2.below bA, good_n 25 n (by omega) hn2⟩
              | 3, _ => exact ⟨_, v3.below bA, g3⟩
              | 4, _ => exact ⟨_, v4.below bA, g4⟩
              | 5, _ => exact ⟨_, v5.below bA, g5⟩
              | 6, _ => exact ⟨_, v6.below bA, g6⟩
              | 7, _ => exact ⟨_, q7.below bA, good_n 28 n (by omega) hn2⟩
        · with_reducible refine Rg.ph_gen 44 79 [38] false (JP wr.heap.size a8) ?_ wr.heap.size ?_ ?_
          · kernel_rfl
          · simp
          · intro us wx hM hdep
            have d1 : JS wr.heap.size (us 38) wx := hdep _ (List.getElem_mem (n := 8) (by simp)) (by simp)
            obtain ⟨B, e1, hr⟩ := d1
            refine ⟨_, wx, Rg.run_exec_index (t := 32) (x := .tmp 73) (y := .tmp 78) (xv := us 38) (yv := .int .u64 ((x : Int) % 8)) ?_ ?_ ?_ (by rw [e1, h8]; exact ix8 B a8 HA.out.2.2.2.2.2.2 wx), ⟨B, rfl, hr⟩, Below.refl _ _, (fun h => by cases h)⟩
            · kernel_rfl
            · kernel_rfl
            · kernel_rfl
        · with_reducible refine Rg.ph_gen 45 80 [44] false (JF wr.heap.size) ?_ wr.heap.size ?_ ?_
          · kernel_rfl
          · simp
          · intro us wx hM hdep
            have d1 : JP wr.heap.size a8 (us 44) wx := hdep _ (List.getElem_mem (n := 9) (by simp)) (by simp)
            obtain ⟨B, e1, hr⟩ := d1
            obtain ⟨A, f, fv, gd, hA, hc⟩ := hr.get a8 HA.out.2.2.2.2.2.2
            refine ⟨_, wx, Rg.run_exec_load (t := 28) (x := .tmp 79) (xv := us 44) ?_ ?_ (by rw [e1]; exact load_ten AgFF wx B (a8 * 10) A hA hc), ⟨A, f, rfl, fv, gd⟩, Below.refl _ _, (fun h => by cases h)⟩
            · kernel_rfl
            · kernel_rfl
        · with_reducible refine Rg.ph_gen 46 7 [] true (JZ) ?_ wr.heap.size ?_ ?_
          · kernel_rfl
          · simp
          · intro us wx hM hdep
            refine ⟨.pointer (some ⟨wx.heap.size, 0, none⟩), wx.alloc (.cells zF 28), Rg.run_exec_alloc (t := 28) ?_ (by rw [alFF]; exact ralFF wx), ⟨_, rfl, row?_alloc_at _ _ _ _ rfl⟩, (Below.refl _ _).alloc (Nat.le_refl _) _, fun _ => ⟨Nat.le_refl _, by simp [Rg.vblk]⟩⟩
            kernel_rfl
      · intro us wZ hbZ hJ hfr _
        have hB7 : wr.heap.size ≤ Rg.vblk (us 46) := Nat.le_trans (by simp) (hfr _ (List.getElem_mem (n := 11) (by simp)) rfl).1
        simp only [List.forall_mem_cons] at hJ
        obtain ⟨-, -, -, -, -, -, -, -, -, -, ⟨A, f, e45, fv, gd⟩, ⟨B7, e46, r7⟩, -⟩ := hJ
        simp only [e46, Rg.vblk] at hB7
        simp only [Rg.puts, List.map_cons, List.map_nil, List.getD_cons_zero, List.getD_cons_succ]
        simp only [e45, e46]
        clear e45 e46 hfr h70 h1000 h61 h9 h300 h2 h8 hn hfin c0 c0d
        have hA10 := fv.size.1
        have hA1 := fv.size.2
        have bZ : Below wr.heap.size wr wZ := (Below.refl wr.heap.size wr).drew.trans (hbZ.mono (by simp))
        have b1 : Below wr.heap.size wr (wZ.setRow B7 A) := below_setRow bZ hB7 A
        have r7' : row? wZ B7 = some (fvA 0 0 0 (.slice none 0 0) 0 0 false (.slice none 0 0) (.slice none 0 0) (.slice none 0 0)) := r7
        have rA := row?_setRow_eq r7' (c' := A)
        have lA := rldFF (wZ.setRow B7 A) B7 (by rw [rA, Option.map_some, hA10])
        rw [rA, Option.getD_some] at lA
        have k4 : ∀ k, (Value.slice a4 fs.length x4).ownBlock = some k → k < wr.heap.size := fun k hk => (OF.out.fs.lt k hk).2
        have k3 : ∀ k, (Value.slice a3 (cat fs).length x3).ownBlock = some k → k < wr.heap.size := fun k hk => (OB.out.lt k hk).2
        have f7 := fv (some B7) (fun k e => by cases e; exact .inr r7)
        have f4 := f7.other (fv _ (fun k e => .inl (k4 k e))) (grown_setRow wZ B7 A)
        have f3 := f7.other (fv _ (fun k e => .inl (k3 k e))) (grown_setRow wZ B7 A)
        have bA := (Below.refl (wZ.setRow B7 A).heap.size (wZ.setRow B7 A)).alloc (Nat.le_refl _) (.cells A 28)
        have b2 := b1.trans (bA.mono b1.size)
        have F4 := Lib.hid (f4.below bA)
        have F3 := Lib.hid (f3.below bA)
        have OF2' := Lib.hid (OF.out.below b2)
        have OB2 := Lib.hid (own_below OB.out b2)
        have RA := Lib.hid (row?_alloc_at (wZ.setRow B7 A) A 28 wZ.heap.size (by simp))
        have RB := Lib.hid (show row? ((wZ.setRow B7 A).alloc (.cells A 28)) B7 = some A by rw [row?_alloc_past _ _ _ (row?_lt rA)]; exact rA)
        have BW2 := Lib.hid (BW.out.trans (b2.mono BW.out.size))
        have SZ := Lib.hid (And.intro b2.size (And.intro BW.out.size hB7))
        have K4 := Lib.hid k4
        have K3 := Lib.hid k3
        have GD := Lib.hid gd
        have hfold := fold_cells A hA10
        clear OF OB bZ b1 rA f7 f4 f3 bA b2 r7 k4 k3 gd fv BW
        go_wp2_with (first
          | (at_builtin; refine Classical.byContradiction ?_)
          | ((with_reducible refine Rg.plan_pure ?_ ?_ ?_); kernel_rfl; kernel_rfl; intro _ _)
          | ((with_reducible refine Rg.plan_take ?_ ?_ ?_); kernel_rfl; kernel_rfl; intro _ _)
          | ((with_reducible refine Rg.plan_keep ?_ ?_); kernel_rfl; intro K hK)
          | (refine hK _ _ (Rg.Keep.refl _) ?_; clear hK)
          | (refine hK _ _ (Rg.Keep.of_below (by assumption)) ?_; clear hK)
          | ((with_reducible refine Rg.plan_skip ?_ ?_); kernel_rfl)
          | (with_reducible refine Rg.plan_done ?_)
          | (with_reducible refine Rg.calm_normal ?_))
        intro hh; apply hh; clear hh
        refine app_fs2 rfl _ _ 32 rfl w.heap.size 28 i0 _ 144 Try.underlying32 hi0 hz0 rfl hz1 hz2 (by decide) (.slice a4 fs.length x4) fs _ rfl OF2'.out (fun k hk => Nat.lt_of_lt_of_le (K3.out k hk) SZ.out.1) wZ.heap.size 1 A f rfl RA.out F4.out F3.out (by have := HL.out; have := HFL.out; omega) (by have := SZ.out; omega) ?_
        intro v5 w5 of5 g5 h5
        have hlow4 : ∀ k, (Value.slice a4 fs.length x4).ownBlock = some k → w.heap.size ≤ k := fun k hk => (OF2'.out.fs.lt k hk).1
        have ne3 : ∀ k, (Value.slice a3 (cat fs).length x3).ownBlock = some k → some k ≠ (Value.slice a4 fs.length x4).ownBlock := by
          obtain ⟨_, _, _, _, _, hne⟩ := OF2'.out
          intro k hk e
          exact hne k e.symm hk.symm
        have ob5 := own_grown OB2.out g5 ne3
        have rB5 := row_grown g5 RB.out (fun e => by have := K4.out B7 e.symm; have := SZ.out.2.2; omega)
        have l5 := rldFF w5 B7 (by rw [rB5, Option.map_some, hA10])
        rw [rB5, Option.getD_some] at l5
        have b5 := BW2.out.grown g5 BW2.out.size hlow4
        have fv5 := (F4.out.grown g5).fv
        obtain ⟨gs, hgs⟩ : ∃ gs, fs ++ [f] = gs := ⟨_, rfl⟩
        rw [hgs] at of5
        have HGS := Lib.hid hgs
        clear hgs
        obtain ⟨a5, x5, rfl⟩ := of5.fs.shape
        have OF5 := Lib.hid of5
        have OB5 := Lib.hid ob5
        have B5 := Lib.hid b5
        have FV5 := Lib.hid fv5
        clear of5 g5 h5 hlow4 ne3 ob5 rB5 b5 fv5 F4 F3 OF2' OB2 RA RB BW2 lA hfold r7'
        go_wp2_with fail
        refine (fput_fr f GD.out.2.2.1 (.agg A) w5 FV5.out).mono ?_
        rintro e w6 ⟨v6, rfl, o6, h6⟩
        rw [GD.out.laid] at o6
        have OF6 := Lib.hid (OF5.out.below h6)
        have OB6 := Lib.hid (own_below OB5.out h6)
        have B6 := Lib.hid (B5.out.trans (h6.mono B5.out.size))
        have S6 := Lib.hid (Own.sl o6)
        clear o6 h6 OF5 OB5 B5 FV5 l5
        go_wp2_with (at_builtin; refine Classical.byContradiction ?_)
        intro hh; apply hh; clear hh
        refine app_sl2 rfl _ _ 25 rfl w.heap.size 5 u0 Try.underlying25 hu0 hy0 hy1 hy2 (.slice a3 (cat fs).length x3) (cat fs) rfl OB6.out v6 f.put rfl S6.out (by have := cat_len fs HG.out; have := GD.out.2.2.2; have := HL.out; have := HFL.out; omega) B6.out.size ?_
        intro v7 w7 o7 g7 h7
        rw [← cat_snoc, HGS.out] at o7
        have of7 := OF6.out.turn g7 h7
        have b7 := B6.out.grown g7 B6.out.size (fun k hk => (OB6.out.lt k hk).1)
        obtain ⟨a7, x7, rfl, -, -, -⟩ := id (Own.sl o7)
        have OF7 := Lib.hid of7
        have O7 := Lib.hid o7
        have B7' := Lib.hid b7
        have hi1 : wrap64 ((i : Int) + 1) = (i : Int) + 1 := by have := HL.out; unfold wrap64; omega
        have HLT2 := Lib.hid hlt
        clear of7 o7 b7 g7 h7 OF6 OB6 B6 S6 hlt p p0 p2
        go_wp2_with fail
        go_roundw
        case rel => exact ⟨i + 1, gs, HLT2.out, congrArg (Value.int .i64) hi1, by rw [← HGS.out, List.length_append, HFL.out]; rfl, fun q hq => by rw [← HGS.out] at hq; rcases List.mem_append.1 hq with h | h; exact HG.out q h; rw [List.mem_singleton] at h; rw [h]; exact GD.out, OF7.out, O7.out, B7'.out⟩
        case measure => rw [hi1]; exact meas HLT2.out
    case neg =>
      have p2 : decide (i < ns.length) = false := decide_eq_false hlt
      obtain rfl : i = ns.length := by omega
      have hfl2 := HFL.out
      have hL2 := HL.out
      have hne : fs ≠ [] := by intro e; rw [e] at hfl2; simp at hfl2; omega
      have hgm : ∀ f, f ∈ fs → f.may = true ∧ f.k ≠ 0 := fun f hf => ⟨(HG.out f hf).1, (HG.out f hf).2.1⟩
      have hall := fall_cat fs hgm hne (by omega)
      have hcl := cat_len fs HG.out
      have hcut : ∃ r : List Fr × Int, fall (cat fs).dropLast = r ∧ ∃ init lf, fs = init ++ [lf] ∧ r = if 1 < lf.put.length then ([], 3) else if init.length = 0 then ([], 5) else (init, 0) := by
        have e := (List.dropLast_concat_getLast hne).symm
        have hil : fs.dropLast.length < 64 := by rw [List.length_dropLast]; omega
        have h := fall_cat_cut fs.dropLast (fs.getLast hne) (by rw [← e]; exact hgm) hil
        rw [← e] at h
        exact ⟨_, h, fs.dropLast, fs.getLast hne, e, rfl⟩
      have hc1 : 1 ≤ (cat fs).length := by
        obtain ⟨_, _, init, lf, e, _⟩ := hcut
        have := (put_first (hgm lf (by rw [e]; simp)).1 (hgm lf (by rw [e]; simp)).2).2
        rw [e, cat_snoc, List.length_append]; omega
      obtain ⟨L, hLc⟩ : ∃ L, cat fs = L := ⟨_, rfl⟩
      rw [hLc] at ob hall hcl hcut hc1 ⊢
      have S0 := Lib.hid (Own.sl ob)
      have OBL := Lib.hid ob
      have HCL := Lib.hid (show L.length ≤ 40000 by omega)
      have HC1 := Lib.hid hc1
      have HALL := Lib.hid hall
      have HCUT := Lib.hid hcut
      have HNE := Lib.hid (show 1 ≤ fs.length by omega)
      clear of ob bw hgood hfl2 hL2 hne hgm hall hcl hcut hc1 hLc OB hlt hi
      go_wp2_with (at_builtin; refine Classical.byContradiction ?_)
      intro hh; apply hh; clear hh
      refine app_sl rfl _ _ 25 rfl wr.heap.size 5 u0 Try.underlying25 hu0 hy0 hy1 hy2 (.slice none 0 0) [] rfl (World.ownsRow_nil _ _ _ _) (.slice a3 L.length x3) L rfl S0.out (by have := HCL.out; simp; omega) (Nat.le_refl _) ?_
      intro v2 w2 o2 g2
      rw [List.nil_append] at o2
      have z2 := (Below.refl wr.heap.size wr).grown g2 (Nat.le_refl _) (fun k hk => by cases hk)
      obtain ⟨a2, x2, rfl, -, -, -⟩ := id (Own.sl o2)
      have S2 := Lib.hid (Own.sl o2)
      have B2 := Lib.hid (BW.out.trans (z2.mono BW.out.size))
      have OF2' := Lib.hid (OF.out.fs.below z2)
      have OB2 := Lib.hid (S0.out.below z2)
      clear o2 g2 z2 OF BW OBL S0
      go_wp2_with fail
      have hc := fall_any L (by have := HCL.out; omega) _ w2 S2.out
      rw [HALL.out] at hc
      refine hc.mono ?_
      rintro e w3 ⟨v8, rfl, o8, h3⟩
      have o8 : OwnFs w3 w2.heap.size 28 v8 fs := o8
      obtain ⟨a8, x8, rfl⟩ := o8.shape
      have O8 := Lib.hid o8
      have OF3 := Lib.hid (OF2'.out.below h3)
      have OB3 := Lib.hid (OB2.out.below h3)
      have B3 := Lib.hid (B2.out.trans (h3.mono B2.out.size))
      have q0 : ((L.length : Int) == 0) = false := by rw [beq_eq_false_iff_ne]; have := HC1.out; omega
      clear hc o8 h3 S2 B2 OF2' OB2
      simp only []
      go_wp2_with fail
      go_loopw [10] (fun v10 wq => ∃ j : Nat, j ≤ fs.length ∧ v10 = .int .i64 (j : Nat) ∧ OwnFs wq w.heap.size 28 (.slice a4 fs.length x4) fs ∧ OwnFs wq w2.heap.size 28 (.slice a8 fs.length x8) fs ∧ Sl wq (.slice a3 L.length x3) L ∧ Below w.heap.size w wq) (fun v10 _ => fs.length - (intOf v10).toNat)
      case atStart => exact ⟨0, by omega, rfl, OF3.out, O8.out, OB3.out, B3.out⟩
      case round =>
        obtain ⟨j, hj, rfl, of, og, sb, bq⟩ := hrel
        have OF := Lib.hid of
        have OG := Lib.hid og
        have SB := Lib.hid sb
        have BQ := Lib.hid bq
        clear OF3 O8 OB3 B3
        by_cases hlt : j < fs.length
        case pos =>
          have p3 : decide (j < fs.length) = true := decide_eq_true hlt
          have HLT3 := Lib.hid hlt
          obtain ⟨g, cap', A, e', fa, hA, cA⟩ := of.get j hlt
          injection e' with e1 e2 e3
          subst e1 e3
          obtain ⟨g', cap'', A', e', fa', hA', cA'⟩ := og.get j hlt
          injection e' with e1 e2 e3
          subst e1 e3
          obtain ⟨fi, hfi⟩ : ∃ fi, fs.getD j fr0 = fi := ⟨_, rfl⟩
          have hgi : GoodF fi := HG.out fi (by rw [← hfi, List.getD_eq_getElem?_getD, List.getElem?_eq_getElem hlt]; exact List.getElem_mem hlt)
          rw [hfi] at fa fa'
          have l1 := load_ten AgFF wr.drew g (j * 10) A hA (fun k hk => cA k hk)
          have l2 := load_ten AgFF wr.drew g' (j * 10) A' hA' (fun k hk => cA' k hk)
          have BD : Below wr.heap.size wr wr.drew := (Below.refl _ _).drew
          have FA := Lib.hid (fa.fv.below BD)
          have FA' := Lib.hid (fa'.fv.below BD)
          have GI := Lib.hid hgi
          have CA := Lib.hid (ten_below cA hA BD)
          have hi1 : wrap64 ((j : Int) + 1) = (j : Int) + 1 := by have := HL.out; have := HFL.out; unfold wrap64; omega
          clear of og sb bq fa fa' cA cA' hfi hgi BD
          go_wp2_with fail
          refine Rg.wp_region_plan (Rg.row [(0, 3), (1, 3), (2, 3), (3, 0), (4, 3), (5, 3), (6, 3), (7, 0), (8, 1), (9, 3), (10, 3), (11, 3), (12, 3), (13, 3), (14, 0), (15, 1), (16, 3), (17, 3)] []) [] (by kernel_rfl) (by kernel_rfl) ?_
          simp only [Rg.row, Rg.PT.map, List.map_nil, List.getD_cons_zero, List.getD_cons_succ]
          go_wp2_with (first
            | ((with_reducible refine Rg.plan_pure ?_ ?_ ?_); kernel_rfl; kernel_rfl; intro _ _)
            | ((with_reducible refine Rg.plan_take ?_ ?_ ?_); kernel_rfl; kernel_rfl; intro _ _)
            | ((with_reducible refine Rg.plan_keep ?_ ?_); kernel_rfl; intro K hK)
            | (refine hK _ _ (Rg.Keep.refl _) ?_; clear hK)
            | (refine hK _ _ (Rg.Keep.of_below (by assumption)) ?_; clear hK)
            | ((with_reducible refine Rg.plan_skip ?_ ?_); kernel_rfl)
            | (with_reducible refine Rg.plan_done ?_)
            | (with_reducible refine Rg.calm_normal ?_))
          have hs := fsame_fr fi fi GI.out.2.2.1 (.agg A') (.agg A) wr.drew FA'.out FA.out
          rw [sameB_self] at hs
          refine hs.mono ?_
          rintro e w8 ⟨rfl, h8⟩
          refine hK _ _ (Rg.Keep.of_below h8) ?_
          have FA8 := Lib.hid (FA.out.below h8)
          have bD := (Below.refl wr.heap.size wr).drew
          have OF8 := Lib.hid ((OF.out.below bD).below h8)
          have OG8 := Lib.hid ((OG.out.below bD).below h8)
          have SB8 := Lib.hid ((SB.out.below bD).below h8)
          have BQ8 := Lib.hid (BQ.out.drew.trans (h8.mono BQ.out.drew.size))
          have l3 := load_ten AgFF w8 g (j * 10) A hA (ten_below CA.out hA h8)
          clear hK hs h8 FA FA' OF OG BQ SB bD l1 l2 CA
          go_wp2_with (first
            | ((with_reducible refine Rg.plan_pure ?_ ?_ ?_); kernel_rfl; kernel_rfl; intro _ _)
            | ((with_reducible refine Rg.plan_take ?_ ?_ ?_); kernel_rfl; kernel_rfl; intro _ _)
            | ((with_reducible refine Rg.plan_keep ?_ ?_); kernel_rfl; intro K hK)
            | (refine hK _ _ (Rg.Keep.refl _) ?_; clear hK)
            | (refine hK _ _ (Rg.Keep.of_below (by assumption)) ?_; clear hK)
            | ((with_reducible refine Rg.plan_skip ?_ ?_); kernel_rfl)
            | (with_reducible refine Rg.plan_done ?_)
            | (with_reducible refine Rg.calm_normal ?_))
          have hs := fmay_fr fi GI.out.2.2.1 (.agg A) w8 FA8.out
          rw [GI.out.1] at hs
          refine hs.mono ?_
          rintro e w9 ⟨rfl, h9⟩
          refine hK _ _ (Rg.Keep.of_below h9) ?_
          have OF9 := Lib.hid (OF8.out.below h9)
          have OG9 := Lib.hid (OG8.out.below h9)
          have SB9 := Lib.hid (SB8.out.below h9)
          have BQ9 := Lib.hid (BQ8.out.trans (h9.mono BQ8.out.size))
          clear hK hs h9 FA8 OF8 OG8 BQ8 SB8 l3
          go_wp2_with (first
            | ((with_reducible refine Rg.plan_pure ?_ ?_ ?_); kernel_rfl; kernel_rfl; intro _ _)
            | ((with_reducible refine Rg.plan_take ?_ ?_ ?_); kernel_rfl; kernel_rfl; intro _ _)
            | ((with_reducible refine Rg.plan_keep ?_ ?_); kernel_rfl; intro K hK)
            | (refine hK _ _ (Rg.Keep.refl _) ?_; clear hK)
            | (refine hK _ _ (Rg.Keep.of_below (by assumption)) ?_; clear hK)
            | ((with_reducible refine Rg.plan_skip ?_ ?_); kernel_rfl)
            | (with_reducible refine Rg.plan_done ?_)
            | (with_reducible refine Rg.calm_normal ?_))
          go_roundw
          case rel => exact ⟨j + 1, HLT3.out, congrArg (Value.int .i64) hi1, OF9.out, OG9.out, SB9.out, BQ9.out⟩
          case measure => rw [hi1]; exact meas HLT3.out
        case neg =>
          have p3 : decide (j < fs.length) = false := decide_eq_false hlt
          obtain ⟨r, hr, init, lf, hfs, hrr⟩ := HCUT.out
          obtain ⟨m, hm⟩ : ∃ m, fs.length = m + 1 := ⟨fs.length - 1, by have := HNE.out; omega⟩
          obtain ⟨g, cap', A, e', fa, hA, cA⟩ := of.get m (by omega)
          injection e' with e1 e2 e3
          subst e1 e3
          have hlf : fs.getD m fr0 = lf := by
            have : init.length = m := by rw [hfs] at hm; simpa using hm
            rw [hfs, ← this]; simp [List.getD]
          rw [hlf] at fa
          have hgl : GoodF lf := HG.out lf (by rw [hfs]; simp)
          have l1 := load_ten AgFF wr g (m * 10) A hA (fun k hk => cA k hk)
          have FA := Lib.hid fa.fv
          have GL := Lib.hid hgl
          have hmm : m < fs.length := by omega
          have wm : wrap64 ((fs.length : Int) - 1) = (m : Nat) := by have := HL.out; have := HFL.out; unfold wrap64; omega
          have HM := Lib.hid hm
          have HR := Lib.hid hr
          have HRR := Lib.hid hrr
          have HFS := Lib.hid hfs
          clear of og sb bq fa cA hgl hr hrr hlt hlf hfs hm HCUT OG
          go_wp2_with fail
          have hc := flen_fr lf GL.out.2.2.1 (.agg A) wr FA.out
          rw [GL.out.laid] at hc
          refine hc.mono ?_
          rintro e w10 ⟨rfl, h10⟩
          have SB10 := Lib.hid (SB.out.below h10)
          have B10 := Lib.hid (BQ.out.trans (h10.mono BQ.out.size))
          clear hc h10 FA OF BQ SB l1
          obtain ⟨k, hk⟩ : ∃ k, L.length = k + 1 := ⟨L.length - 1, by have := HC1.out; omega⟩
          have wk : wrap64 ((L.length : Int) - 1) = (k : Nat) := (IntWalk.wrap64_in _ (by have := HCL.out; omega)).trans (by omega)
          have hx3 : L.length ≤ x3 := by obtain ⟨_, _, e, h, _⟩ := SB10.out; injection e with _ _ e3; omega
          have hcut : ∀ W, (Instr.sliceAt 25 (.slice a3 L.length x3) none (some (.int .i64 (k : Nat))) none).run Try.prog W = .ok (.slice (cutA a3 0 x3) k x3) W := fun W => by
            rw [cut_h TB W _ _ _ _ _ (by omega) (by omega), Int.toNat_natCast]
          have hsc := SB10.out.cut 0 k (by omega) (by omega)
          rw [Nat.sub_zero, Nat.sub_zero, List.drop_zero, show L.take k = L.dropLast by rw [List.dropLast_eq_take, hk]; rfl] at hsc
          have SC := Lib.hid hsc
          have HKK := Lib.hid hk
          clear hsc hk hx3
          go_wp2_with fail
          have hc := fall_any L.dropLast (by have := HCL.out; rw [List.length_dropLast]; omega) _ w10 SC.out
          rw [HR.out] at hc
          refine hc.mono ?_
          rintro e w11 ⟨v12, rfl, o12, h11⟩
          obtain ⟨cs, er⟩ := r
          have o12 : OwnFs w11 w10.heap.size 28 v12 cs := o12
          obtain ⟨a12, x12, rfl⟩ := o12.shape
          have B11 := Lib.hid (B10.out.trans (h11.mono B10.out.size))
          have hrr := HRR.out
          have him : init.length = m := by have h1 := HFS.out; have h2 := HM.out; rw [h1] at h2; simpa using h2
          obtain ⟨c, hcl⟩ : ∃ c, cs.length = c := ⟨_, rfl⟩
          obtain ⟨pl, hpl⟩ : ∃ pl, lf.put.length = pl := ⟨_, rfl⟩
          rw [hpl] at hrr ⊢
          rw [hcl]
          simp only []
          clear hc o12 h11 B10 SB10 SC hcut wk
          by_cases h1 : 1 < pl
          · rw [if_pos h1] at hrr
            obtain ⟨rfl, rfl⟩ := Prod.mk.inj hrr
            obtain rfl : 0 = c := hcl
            have p1 : decide ((1 : Int) < (pl : Int)) = true := decide_eq_true (by omega)
            have p4 : decide (1 < pl) = true := decide_eq_true h1
            clear h1 hrr him
            go_wp2_with fail
            refine (fawake_any _).mono ?_
            rintro e wx ⟨rfl, hx⟩
            have BX := Lib.hid (B11.out.trans (hx.mono B11.out.size))
            clear hx
            go_wp2_with fail
            go_ret
            exact ⟨rfl, BX.out⟩
          have p1 : decide ((1 : Int) < (pl : Int)) = false := decide_eq_false (by omega)
          have p4 : decide (1 < pl) = false := decide_eq_false h1
          rw [if_neg h1] at hrr
          by_cases h2 : init.length = 0
          · rw [if_pos h2] at hrr
            obtain ⟨rfl, rfl⟩ := Prod.mk.inj hrr
            obtain rfl : 0 = c := hcl
            have q1 : ((fs.length : Int) == 1) = true := by rw [beq_iff_eq]; have := HM.out; omega
            clear h1 h2 hrr him
            go_wp2_with fail
            refine (fawake_any _).mono ?_
            rintro e wx ⟨rfl, hx⟩
            have BX := Lib.hid (B11.out.trans (hx.mono B11.out.size))
            clear hx
            go_wp2_with fail
            go_ret
            exact ⟨rfl, BX.out⟩
          · rw [if_neg h2] at hrr
            obtain ⟨rfl, rfl⟩ := Prod.mk.inj hrr
            obtain rfl : m = c := him.symm.trans hcl
            have HH := Lib.hid (And.intro h1 (And.intro h2 him))
            clear h1 h2 hrr him hcl
            go_wp2_with fail
            refine (fawake_any _).mono ?_
            rintro e wx ⟨rfl, hx⟩
            have BX := Lib.hid (B11.out.trans (hx.mono B11.out.size))
            clear hx
            go_wp2_with fail
            go_ret
            exact ⟨rfl, BX.out⟩
end Go.Proofs.Ytipniobgijdlkaa
