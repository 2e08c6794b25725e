/- The law PackRows, walked. (printed by gen_prows.py) -/
import Derived.Test.YtipniobgijdlkaaMgp0
import Derived.Test.YtipniobgijdlkaaMgs25
namespace Go.Proofs.Ytipniobgijdlkaa
open Go.RowKit Go.Rw Frm Hdr
attribute [local go_sem ↓] ldFF stFF alFF
attribute [local go_sem] rldFF rstFF ralFF setRow_alloc_at setRow_alloc_past setRow_drew
set_option maxRecDepth 400000 in
set_option maxHeartbeats 8000000 in
theorem packRows_any (fs : List Fr) (room_ : Int) (vf : Value) (w : World) (hs : Fsl w vf fs) :
    Calls Try.prog 4 #[vf, .int .i64 room_] w fun e w' => e = .returned (.bool true) ∧ Below w.heap.size w w' := by
  obtain ⟨i0, hi0, hz0, hz1, hz2⟩ := info_parts infoFr
  obtain ⟨af, cf, rfl, hp⟩ := id hs
  have HP := Lib.hid hp
  clear hs hp
  go_enter Try.func4, Try.ntmps4
  by_cases hl8 : 8 < fs.length
  · have p : decide ((8 : Int) < (fs.length : Int)) = true := decide_eq_true (by omega)
    clear hl8
    go_wp2_with fail
    refine (awake_any w).mono ?_
    rintro e wx ⟨rfl, hx⟩
    go_wp2_with fail
    go_ret
    exact ⟨rfl, hx⟩
  have p : decide ((8 : Int) < (fs.length : Int)) = false := decide_eq_false (by omega)
  have HL := Lib.hid (show fs.length ≤ 8 by omega)
  clear hl8
  go_wp2_with fail
  refine (low_any room_ 401 (by omega) (by omega) w).mono ?_
  rintro e w0 ⟨rfl, rfl⟩
  obtain ⟨room, hroom⟩ : ∃ room, low room_ 401 = room := ⟨_, rfl⟩
  have hr401 := low_lt room_ 401 (by omega)
  rw [hroom] at hr401 ⊢
  have HRM := Lib.hid hr401
  clear hroom hr401
  go_wp2_with fail
  go_loopw [5, 6] (fun v5 v6 wr => ∃ (k : Nat) (T : List Fr), k ≤ fs.length ∧ v6 = .int .i64 (k : Nat) ∧ T.length ≤ k ∧ (∀ f, f ∈ T → PN f) ∧ OF2 wr w.heap.size 28 v5 T none ∧ Below w.heap.size w wr) (fun _ v6 _ => fs.length - (intOf v6).toNat)
  case atStart => exact ⟨0, [], by omega, rfl, by simp, fun f hf => by simp at hf, OF2.nil _ _ _ _, Below.refl _ _⟩
  case round =>
    obtain ⟨k, T, hk, rfl, hT, hpn, of, bw⟩ := hrel
    have OF := Lib.hid of
    have BW := Lib.hid bw
    have HPN := Lib.hid hpn
    have HT := Lib.hid hT
    obtain ⟨a5, x5, rfl⟩ := of.fs.shape
    by_cases hlt : k < fs.length
    case pos =>
      have p2 : decide (k < fs.length) = true := decide_eq_true hlt
      obtain ⟨bf, off, rfl, hcell⟩ := HP.out (by omega)
      obtain ⟨A, hA, fv0, hcA⟩ := hcell k hlt
      obtain ⟨f, hf⟩ : ∃ f, fs.getD k fr0 = f := ⟨_, rfl⟩
      rw [hf] at fv0
      have la := load_ten AgFF wr bf (off + k * 10) A hA (tenb hcA hA bw)
      have FV0 := Lib.hid fv0
      have CA := Lib.hid hcA
      have HLT := Lib.hid hlt
      have FV := Lib.hid (fv0.below bw)
      have HK1 := Lib.hid (show wrap64 ((k : Int) + 1) = (k : Int) + 1 from IntWalk.wrap64_in _ (by have := HL.out; omega))
      clear of bw hpn fv0 hcA hf hcell hT hk
      go_wp2_with fail
      refine (great_any f (.agg A) wr FV.out).mono ?_
      rintro e w1 ⟨rfl, h1⟩
      have B1 := Lib.hid (BW.out.trans (h1.mono BW.out.size))
      have OF1 := Lib.hid (OF.out.below h1)
      clear OF BW FV h1 la
      by_cases hg : greatB f = true
      case pos =>
        rw [hg]
        go_wp2_with fail
        refine (awake_any _).mono ?_
        rintro e wx ⟨rfl, hx⟩
        have BX := Lib.hid (B1.out.trans (hx.mono B1.out.size))
        clear hx
        go_wp2_with fail
        go_ret
        exact ⟨rfl, BX.out⟩
      rw [Bool.eq_false_iff.2 hg]
      have HG := Lib.hid hg
      have la := load_ten AgFF w1 bf (off + k * 10) A hA (tenb CA.out hA B1.out)
      clear hg
      go_wp2_with fail
      refine (rmay_fr f (great_fit HG.out) (.agg A) w1 (FV0.out.below B1.out)).mono ?_
      rintro e w2 ⟨rfl, h2⟩
      have B2 := Lib.hid (B1.out.trans (h2.mono B1.out.size))
      have OF2' := Lib.hid (OF1.out.below h2)
      clear OF1 B1 h2 la
      by_cases hm : f.may = true
      case neg =>
        rw [Bool.eq_false_iff.2 hm]
        clear hm
        go_wp2_with fail
        go_roundw
        case rel => exact ⟨k + 1, T, HLT.out, congrArg (Value.int .i64) HK1.out, by have := HT.out; omega, HPN.out, OF2'.out, B2.out⟩
        case measure => rw [HK1.out]; exact meas HLT.out
      rw [hm]
      have hpw := pw_of HG.out hm
      obtain ⟨ur, ud, uc, ut, eA⟩ : ∃ ur ud uc ut, A = fvA f.k f.n f.d ur f.i f.o f.fin ud uc ut := by
        obtain ⟨vr, vd, vc, vt, e, _⟩ := FV0.out
        injection e with e
        exact ⟨vr, vd, vc, vt, e⟩
      have ck : w2.cell? ⟨bf, off + k * 10, none⟩ = some (.int .i64 f.k) := (tenb CA.out hA B2.out 0 (by decide)).trans (by rw [eA]; rfl)
      clear eA
      by_cases hk0 : f.k = 0
      case pos =>
        have qk : (f.k != 0) = false := by simpa using hk0
        have KK := Lib.hid hk0
        clear hm hpw hk0
        go_wp2_with fail
        go_roundw
        case rel => exact ⟨k + 1, T, HLT.out, congrArg (Value.int .i64) HK1.out, by have := HT.out; omega, HPN.out, OF2'.out, B2.out⟩
        case measure => rw [HK1.out]; exact meas HLT.out
      have qk : (f.k != 0) = true := by simpa using hk0
      have HPF := Lib.hid (show PN f by
        rcases hpw with ⟨n, e, _⟩ | h
        · exact absurd (by rw [e]; rfl) hk0
        · exact ⟨h.2.1, h.1, h.2.2.1, h.2.2.2⟩)
      have la := load_ten AgFF w2 bf (off + k * 10) A hA (tenb CA.out hA B2.out)
      have bA := (Below.refl w2.heap.size w2).alloc (Nat.le_refl _) (.cells A 28)
      have hA1 : allOne A = true := by exact (FV0.out.fva none (fun k e => by cases e)).size.2
      have F4 := Lib.hid (((FV0.out.fva _ (fun k hk => (OF2'.out.fs.lt k hk).1)).below B2.out).below bA)
      have F3 := Lib.hid (((FV0.out.fva none (fun k hk => by cases hk)).below B2.out).below bA)
      have OF5 := Lib.hid (OF2'.out.below bA)
      have RA := Lib.hid (row?_alloc_at w2 A 28 w2.heap.size rfl)
      have B5 := Lib.hid (B2.out.trans (bA.mono B2.out.size))
      have hfold := fold_cells A hA
      clear bA OF2' hm hpw hk0
      go_wp2_with (at_builtin; refine Classical.byContradiction ?_)
      intro hh; apply hh; clear hh
      refine app_fs2 rfl _ _ 32 rfl w.heap.size 28 i0 _ 144 Try.underlying32 hi0 hz0 rfl hz1 hz2 (by decide) (.slice a5 T.length x5) T none rfl OF5.out (fun k hk => by cases hk) w2.heap.size 1 A f rfl RA.out F4.out F3.out (by have := HT.out; have := HLT.out; have := HL.out; omega) B5.out.size ?_
      intro v6 w6 of6 g6 _
      have b6 := B5.out.grown g6 B5.out.size (fun k hk => (OF5.out.fs.lt k hk).1)
      obtain ⟨Ws, hWs⟩ : ∃ Ws, T ++ [f] = Ws := ⟨_, rfl⟩
      rw [hWs] at of6
      obtain ⟨a6, x6, rfl⟩ := of6.fs.shape
      have HWS := Lib.hid hWs
      have OF6 := Lib.hid of6
      have B6 := Lib.hid b6
      clear of6 b6 g6 hWs OF5 RA B5 F4 F3 hfold la ck
      go_wp2_with fail
      go_roundw
      case rel => exact ⟨k + 1, Ws, HLT.out, congrArg (Value.int .i64) HK1.out, by rw [← HWS.out, List.length_append]; exact Nat.succ_le_succ HT.out, fun q hq => by rw [← HWS.out] at hq; rcases List.mem_append.1 hq with h | h; exact HPN.out q h; rw [List.mem_singleton] at h; rw [h]; exact HPF.out, OF6.out, B6.out⟩
      case measure => rw [HK1.out]; exact meas HLT.out
    case neg =>
      have p2 : decide (k < fs.length) = false := decide_eq_false hlt
      have HT8 := Lib.hid (show T.length ≤ 8 by have := HL.out; omega)
      clear of bw hpn hT hk hlt HT
      go_wp2_with fail
      refine (choose_any T room (by have := HT8.out; omega) (by have := HRM.out; omega) HPN.out _ wr OF.out.fs.fsl).mono ?_
      rintro e w1 ⟨v7, rfl, o7, h1⟩
      obtain ⟨M, hM⟩ : ∃ M, wr.heap.size = M := ⟨_, rfl⟩
      rw [hM] at o7
      obtain ⟨c, hc⟩ : ∃ c, chs T 0 room = c := ⟨_, rfl⟩
      obtain ⟨C, hC⟩ : ∃ C, chosen T room = C := ⟨_, rfl⟩
      have hcl : C.length = c.length := by rw [← hC, ← hc]; exact chosen_len T room
      have hfit : (cat C).length ≤ room := by rw [← hC]; exact chosen_fit T room
      have hCp : ∀ f, f ∈ C → PN f := by rw [← hC]; exact chosen_pn HPN.out
      have hat : ∀ j, j < c.length → c.getD j 0 < T.length := fun j hj => by rw [← hc] at hj ⊢; exact chs_at hj
      have hup : ∀ j, j + 1 < c.length → c.getD j 0 < c.getD (j + 1) 0 := fun j hj => by rw [← hc] at hj ⊢; exact chs_lt hj
      have htk : ∀ j, j < c.length → C.take (j + 1) = C.take j ++ [T.getD (c.getD j 0) fr0] := fun j hj => by rw [← hc] at hj; rw [← hC, ← hc]; exact chosen_take hj
      have hcT : c.length ≤ T.length := by rw [← hc]; exact chs_len T 0 room
      have hr0 : room = 0 → C = [] := fun e => by rw [← hC, e]; exact chosen_none HPN.out
      rw [hc] at o7
      obtain ⟨ints, hints⟩ : ∃ ints, c.map Int.ofNat = ints := ⟨_, rfl⟩
      have hil : ints.length = c.length := by rw [← hints]; simp
      have hget : ∀ j, j < c.length → ints[j]? = some ((c.getD j 0 : Nat) : Int) := fun j hj => by
        rw [← hints]
        simp [List.getD, hj]
      rw [hints] at o7
      have O7 := Lib.hid o7
      have OFa := Lib.hid (OF.out.below h1)
      have Ba := Lib.hid (BW.out.trans (h1.mono BW.out.size))
      obtain ⟨a7, x7, rfl⟩ : ∃ a7 x7, v7 = .slice a7 c.length x7 := by
        rcases o7.2 with ⟨e, h0⟩ | ⟨g, cap, cur, e, _⟩
        · exact ⟨none, 0, by rw [e, h0]⟩
        · exact ⟨_, cap, e⟩
      have HCL := Lib.hid (And.intro hcl (And.intro hcT hil))
      have HFIT := Lib.hid hfit
      have HCP := Lib.hid hCp
      have HAT := Lib.hid hat
      have HUP := Lib.hid hup
      have HTK := Lib.hid htk
      have HR0 := Lib.hid hr0
      have HGET := Lib.hid hget
      have HMM := Lib.hid (show M ≤ w1.heap.size by rw [← hM]; exact h1.size)
      clear o7 h1 hM hc hC hcl hfit hCp hat hup htk hcT hr0 hints hil hget OF BW
      obtain ⟨N2, hN2⟩ : ∃ N2, w1.heap.size = N2 := ⟨_, rfl⟩
      rw [hN2] at HMM
      have K5 := Lib.hid (show ∀ k, (Value.slice a5 T.length x5).ownBlock = some k → k < N2 from fun k hk => by rw [← hN2]; exact (OFa.out.fs.lt k hk).2)
      have K7 := Lib.hid (show ∀ k, (Value.slice a7 c.length x7).ownBlock = some k → k < N2 from fun k hk => by rw [← hN2]; exact (O7.out.lt k hk).2)
      have HN2 := Lib.hid (show N2 ≤ w1.heap.size by omega)
      have HwN := Lib.hid (show w.heap.size ≤ N2 by rw [← hN2]; exact Ba.out.size)
      clear hN2
      go_wp2_with fail
      go_loopw [8, 9] (fun v8 v9 wq => ∃ (j : Nat), j ≤ c.length ∧ v9 = .int .i64 (j : Nat) ∧ OF2 wq w.heap.size 28 (.slice a5 T.length x5) T v8.ownBlock ∧ wq.ownsRow M 3 1 (.slice a7 c.length x7) c.length (ints.map iv) ∧ OF2 wq N2 28 v8 (C.take j) none ∧ N2 ≤ wq.heap.size ∧ Below w.heap.size w wq) (fun _ v9 _ => c.length - (intOf v9).toNat)
      case atStart => exact ⟨0, by omega, rfl, OFa.out.fs.of2 _ (fun k hk => by cases hk), O7.out, OF2.nil _ _ _ _, HN2.out, Ba.out⟩
      case round =>
        obtain ⟨j, hj, rfl, of, oi, oc, hnq, bq⟩ := hrel
        obtain ⟨D0, hD0⟩ : ∃ D0, C.take j = D0 := ⟨_, rfl⟩
        rw [hD0] at oc
        have HD0 := Lib.hid (show D0.length ≤ 8 by rw [← hD0, List.length_take]; have := HCL.out; have := HT8.out; omega)
        have HDD := Lib.hid hD0
        clear hD0
        have OF := Lib.hid of
        have OI := Lib.hid oi
        have OC := Lib.hid oc
        have NQ := Lib.hid hnq
        have BQ := Lib.hid bq
        obtain ⟨a8, x8, rfl⟩ := oc.fs.shape
        clear OFa O7 Ba
        by_cases hlt : j < c.length
        case pos =>
          have p3 : decide (j < c.length) = true := decide_eq_true hlt
          have HLT := Lib.hid hlt
          have HJ1 := Lib.hid (show wrap64 ((j : Int) + 1) = (j : Int) + 1 from IntWalk.wrap64_in _ (by have := HCL.out; have := HT8.out; omega))
          obtain ⟨g7, rfl⟩ : ∃ g7, a7 = some ⟨g7, 0, none⟩ := by
            rcases oi.2 with ⟨e, h0⟩ | ⟨g, cap, cur, e, _⟩
            · omega
            · injection e with e
              exact ⟨g, e⟩
          obtain ⟨cj, hcj⟩ : ∃ cj, c.getD j 0 = cj := ⟨_, rfl⟩
          have hcT := HAT.out j hlt
          have htk := HTK.out j hlt
          rw [hcj] at hcT htk
          rw [HDD.out] at htk
          have ci : wr.cell? ⟨g7, j, none⟩ = some (.int .i64 (cj : Nat)) := by
            rw [oi.cellAt j (by omega), List.getElem?_map, HGET.out j hlt, hcj]
            rfl
          have q1 : decide ((cj : Int) < 0) = false := decide_eq_false (by omega)
          have q2 : decide (T.length ≤ cj) = false := decide_eq_false (by omega)
          have q2' : decide ((T.length : Int) ≤ (cj : Int)) = false := decide_eq_false (by omega)
          obtain ⟨b5, cap', A, e', fa, fa8, hA, cA⟩ := of.get cj hcT
          injection e' with e1 e2 e3
          subst e1 e3
          obtain ⟨f, hf⟩ : ∃ f, T.getD cj fr0 = f := ⟨_, rfl⟩
          rw [hf] at fa fa8 htk
          have hA1 := fa.size.2
          have HTJ := Lib.hid htk
          have bD := (Below.refl wr.heap.size wr).drew
          have la := load_ten AgFF wr.drew b5 (cj * 10) A hA (tenb cA hA bD)
          have cid : wr.drew.cell? ⟨g7, j, none⟩ = some (.int .i64 (cj : Nat)) := ci
          have bA := (Below.refl wr.drew.heap.size wr.drew).alloc (Nat.le_refl _) (.cells A 28)
          have F8 := Lib.hid ((fa8.below bD).below bA)
          have FN := Lib.hid (((fa8.new (g' := none) (fun k hk => by cases hk)).below bD).below bA)
          have OF5 := Lib.hid ((OF.out.below bD).below bA)
          have OI5 := Lib.hid (own_below (own_below OI.out bD) bA)
          have OC5 := Lib.hid ((OC.out.below bD).below bA)
          have RA := Lib.hid (row?_alloc_at wr.drew A 28 wr.heap.size rfl)
          have B5 := Lib.hid (BQ.out.drew.trans (bA.mono BQ.out.drew.size))
          have N5 := Lib.hid (Nat.le_trans NQ.out (Nat.le_trans bD.size bA.size))
          have hfold := fold_cells A hA
          have HCJ := Lib.hid (And.intro hcj hcT)
          have KL := Lib.hid (show ∀ k, (Value.slice a8 D0.length x8).ownBlock = some k → k < wr.heap.size from fun k hk => (OC.out.fs.lt k hk).2)
          clear of oi oc hnq bq fa fa8 cA hf htk bD bA hcj OF OI OC BQ hj
          by_cases hj0 : j = 0
          · subst hj0
            have HJ2 := HJ1
            go_wp2_with fail
            refine Rg.wp_region_plan (Rg.row [(0, 3), (1, 3), (2, 3), (3, 0), (4, 3), (5, 3), (6, 3), (7, 3), (8, 3), (9, 0), (10, 3), (11, 0), (12, 3), (13, 3), (14, 3), (15, 3), (16, 3), (17, 3), (18, 3), (19, 3), (20, 3), (21, 0), (22, 3), (23, 3), (24, 3), (25, 3), (26, 0), (27, 3), (28, 3), (29, 3)] []) [] (by kernel_rfl) (by kernel_rfl) ?_
            simp only [Rg.row, Rg.PT.map, List.map_nil, List.getD_cons_zero, List.getD_cons_succ]
            go_wp2_with (first
              | (at_builtin; refine Classical.byContradiction ?_)
              | ((with_reducible refine Rg.plan_skipB 17 true rfl ?_ ?_); kernel_rfl)
              | ((with_reducible refine Rg.plan_pure ?_ ?_ ?_); kernel_rfl; kernel_rfl; intro _ _)
              | ((with_reducible refine Rg.plan_take ?_ ?_ ?_); kernel_rfl; kernel_rfl; intro _ _)
              | ((with_reducible refine Rg.plan_keep ?_ ?_); kernel_rfl; intro K hK)
              | (refine hK _ _ (Rg.Keep.refl _) ?_; clear hK)
              | (refine hK _ _ (Rg.Keep.of_below (by assumption)) ?_; clear hK)
              | ((with_reducible refine Rg.plan_skip ?_ ?_); kernel_rfl)
              | (with_reducible refine Rg.plan_done ?_)
              | (with_reducible refine Rg.calm_normal ?_))
            intro hh; apply hh; clear hh
            refine app_fs2 rfl _ _ 32 rfl N2 28 i0 _ 144 Try.underlying32 hi0 hz0 rfl hz1 hz2 (by decide) (.slice a8 D0.length x8) D0 none rfl OC5.out (fun k hk => by cases hk) wr.heap.size 1 A f rfl RA.out F8.out FN.out (by have := HD0.out; omega) N5.out ?_
            intro v6 w6 of6 g6 h6
            rw [← HTJ.out] at of6
            have b6 := B5.out.grown g6 B5.out.size (fun k hk => Nat.le_trans HwN.out (OC5.out.fs.lt k hk).1)
            have of5 := OF5.out.turn g6 h6
            have oi6 := own_grown OI5.out g6 (fun k hk e => by have := K7.out k hk; have := (OC5.out.fs.lt k e.symm).1; omega)
            have n6 := Nat.le_trans N5.out g6.size
            obtain ⟨D, hD⟩ : ∃ D, C.take (0 + 1) = D := ⟨_, rfl⟩
            rw [hD] at of6
            obtain ⟨a6, x6, rfl⟩ := of6.fs.shape
            have HD := Lib.hid hD
            have OF6 := Lib.hid of6
            have OFt := Lib.hid of5
            have OI6 := Lib.hid oi6
            have B6 := Lib.hid b6
            have N6 := Lib.hid n6
            clear of6 of5 oi6 b6 n6 g6 h6 hD OF5 OI5 OC5 RA B5 F8 FN hfold la N5
            go_wp2_with fail
            go_roundw
            case rel => exact ⟨0 + 1, HLT.out, by first | exact congrArg (Value.int .i64) HJ1.out | rfl, OFt.out, OI6.out, by rw [HD.out]; exact OF6.out, N6.out, B6.out⟩
            case measure => first | (rw [HJ1.out]; exact meas HLT.out) | (rw [HJ2.out]; exact meas HLT.out) | exact meas HLT.out
          · obtain ⟨i, rfl⟩ : ∃ i, j = i + 1 := ⟨j - 1, by omega⟩
            have hup := HUP.out i HLT.out
            rw [HCJ.out.1] at hup
            obtain ⟨ck, hck⟩ : ∃ ck, c.getD i 0 = ck := ⟨_, rfl⟩
            rw [hck] at hup
            have cj' : wr.cell? ⟨g7, i, none⟩ = some (.int .i64 (ck : Nat)) := by
              have h := OI5.out.cellAt i (by have := HLT.out; omega)
              rw [List.getElem?_map, HGET.out i (by have := HLT.out; omega), hck] at h
              have hlt2 : g7 < wr.heap.size := cell_lt ci
              have : (wr.drew.alloc (.cells A 28)).cell? ⟨g7, i, none⟩ = wr.cell? ⟨g7, i, none⟩ := World.cell?_of_block ((((Below.refl wr.heap.size wr).drew.alloc (by simp) (.cells A 28))).block g7 hlt2)
              rw [this] at h
              exact h
            have cjd : wr.drew.cell? ⟨g7, i, none⟩ = some (.int .i64 (ck : Nat)) := cj'
            have q3 : decide ((0 : Int) < ((i + 1 : Nat) : Int)) = true := decide_eq_true (by omega)
            have q3' : decide ((0 : Int) < (i : Int) + 1) = true := decide_eq_true (by omega)
            have q4 : decide (cj ≤ ck) = false := decide_eq_false (by omega)
            have q4' : decide ((cj : Int) ≤ (ck : Int)) = false := decide_eq_false (by omega)
            have wi : wrap64 (i : Int) = (i : Int) := IntWalk.wrap64_in _ (by have := HLT.out; have := HCL.out; have := HT8.out; omega)
            have HJ2 := Lib.hid (show wrap64 ((i : Int) + 1 + 1) = ((i + 1 : Nat) : Int) + 1 from HJ1.out)
            clear hup hck hj0
            go_wp2_with fail
            refine Rg.wp_region_plan (Rg.row [(0, 3), (1, 3), (2, 3), (3, 0), (4, 3), (5, 3), (6, 3), (7, 3), (8, 3), (9, 0), (10, 3), (11, 0), (12, 3), (13, 3), (14, 3), (15, 3), (16, 3), (17, 3), (18, 3), (19, 3), (20, 3), (21, 0), (22, 3), (23, 3), (24, 3), (25, 3), (26, 0), (27, 3), (28, 3), (29, 3)] []) [] (by kernel_rfl) (by kernel_rfl) ?_
            simp only [Rg.row, Rg.PT.map, List.map_nil, List.getD_cons_zero, List.getD_cons_succ]
            go_wp2_with (first
              | (at_builtin; refine Classical.byContradiction ?_)
              | ((with_reducible refine Rg.plan_pure ?_ ?_ ?_); kernel_rfl; kernel_rfl; intro _ _)
              | ((with_reducible refine Rg.plan_take ?_ ?_ ?_); kernel_rfl; kernel_rfl; intro _ _)
              | ((with_reducible refine Rg.plan_keep ?_ ?_); kernel_rfl; intro K hK)
              | (refine hK _ _ (Rg.Keep.refl _) ?_; clear hK)
              | (refine hK _ _ (Rg.Keep.of_below (by assumption)) ?_; clear hK)
              | ((with_reducible refine Rg.plan_skip ?_ ?_); kernel_rfl)
              | (with_reducible refine Rg.plan_done ?_)
              | (with_reducible refine Rg.calm_normal ?_))
            intro hh; apply hh; clear hh
            refine app_fs2 rfl _ _ 32 rfl N2 28 i0 _ 144 Try.underlying32 hi0 hz0 rfl hz1 hz2 (by decide) (.slice a8 D0.length x8) D0 none rfl OC5.out (fun k hk => by cases hk) wr.heap.size 1 A f rfl RA.out F8.out FN.out (by have := HD0.out; omega) N5.out ?_
            intro v6 w6 of6 g6 h6
            rw [← HTJ.out] at of6
            have b6 := B5.out.grown g6 B5.out.size (fun k hk => Nat.le_trans HwN.out (OC5.out.fs.lt k hk).1)
            have of5 := OF5.out.turn g6 h6
            have oi6 := own_grown OI5.out g6 (fun k hk e => by have := K7.out k hk; have := (OC5.out.fs.lt k e.symm).1; omega)
            have n6 := Nat.le_trans N5.out g6.size
            obtain ⟨D, hD⟩ : ∃ D, C.take (i + 1 + 1) = D := ⟨_, rfl⟩
            rw [hD] at of6
            obtain ⟨a6, x6, rfl⟩ := of6.fs.shape
            have HD := Lib.hid hD
            have OF6 := Lib.hid of6
            have OFt := Lib.hid of5
            have OI6 := Lib.hid oi6
            have B6 := Lib.hid b6
            have N6 := Lib.hid n6
            clear of6 of5 oi6 b6 n6 g6 h6 hD OF5 OI5 OC5 RA B5 F8 FN hfold la N5
            go_wp2_with fail
            go_roundw
            case rel => exact ⟨i + 1 + 1, HLT.out, by first | exact congrArg (Value.int .i64) HJ1.out | rfl, OFt.out, OI6.out, by rw [HD.out]; exact OF6.out, N6.out, B6.out⟩
            case measure => first | (rw [HJ1.out]; exact meas HLT.out) | (rw [HJ2.out]; exact meas HLT.out) | exact meas HLT.out
        case neg =>
          have p3 : decide (j < c.length) = false := decide_eq_false hlt
          obtain rfl : C = D0 := by rw [← HDD.out]; exact (List.take_of_length_le (by have := HCL.out; omega)).symm
          clear of oi oc hnq bq hlt hj OF OI
          go_wp2_with fail
          refine (fill_any C room (by have := HD0.out; omega) (by have := HRM.out; omega) HFIT.out HCP.out _ wr OC.out.fs.fsl).mono ?_
          rintro e w1 ⟨v10, rfl, o10, h1⟩
          obtain ⟨m, hm⟩ : ∃ m, room - (cat C).length = m := ⟨_, rfl⟩
          rw [hm] at o10
          obtain ⟨Bt, hBt⟩ : ∃ Bt, cat C ++ List.replicate m 0 = Bt := ⟨_, rfl⟩
          have hbl : Bt.length = room := by rw [← hBt, List.length_append, List.length_replicate]; have := HFIT.out; omega
          rw [hBt] at o10
          have s10 := Own.sl o10
          obtain ⟨a10, x10, rfl, -, -, -⟩ := id s10
          rw [hbl] at s10 ⊢
          have S10 := Lib.hid s10
          have OC1 := Lib.hid (OC.out.fs.below h1)
          have B1 := Lib.hid (BQ.out.trans (h1.mono BQ.out.size))
          have HBT := Lib.hid (And.intro hBt (And.intro hbl hm))
          clear o10 s10 h1 hBt hbl hm OC BQ NQ
          obtain ⟨⟨G, er⟩, hR⟩ : ∃ q, Frm.fall Bt = q := ⟨_, rfl⟩
          have HFB := Lib.hid hR
          clear hR
          simp only []
          go_wp2_with fail
          have hc := dall_any Bt (by have := HBT.out.2.1; have := HRM.out; omega) _ w1 S10.out
          rw [HFB.out] at hc
          refine hc.mono ?_
          rintro e w2 ⟨v12, rfl, o12, h2⟩
          have o12 : OwnFs w2 w1.heap.size 28 v12 G := o12
          obtain ⟨a12, x12, rfl⟩ := o12.shape
          have OC2 := Lib.hid (OC1.out.below h2)
          have B2 := Lib.hid (B1.out.trans (h2.mono B1.out.size))
          obtain ⟨N3, hN3⟩ : ∃ N3, w1.heap.size = N3 := ⟨_, rfl⟩
          rw [hN3] at o12
          have O12 := Lib.hid o12
          clear hc o12 h2 OC1 B1 S10 hN3
          simp only []
          by_cases hz : room = 0
          case pos =>
            have hCn := HR0.out hz
            have q1 : ((C.length : Int) == 0) = true := by rw [hCn]; rfl
            have HZ := Lib.hid hz
            have q0 : ((room : Int) == 0) = true := by rw [hz]; rfl
            clear hz hCn
            go_wp2_with fail
            refine (awake_any _).mono ?_
            rintro e wx ⟨rfl, hx⟩
            have BX := Lib.hid (B2.out.trans (hx.mono B2.out.size))
            clear hx
            go_wp2_with fail
            go_ret
            exact ⟨rfl, BX.out⟩
          have q0 : ((room : Int) == 0) = false := by rw [beq_eq_false_iff_ne]; omega
          have hff := fall_fill HCP.out HD0.out (show m ≤ 400 by have := HBT.out.2.2; have := HRM.out; omega) (by have := HBT.out.2.2; have := HFIT.out; omega)
          rw [HBT.out.1, HFB.out] at hff
          obtain ⟨hG, rfl⟩ := Prod.mk.inj hff
          rw [pads_small m (by have := HBT.out.2.2; have := HRM.out; omega)] at hG
          clear hz hff
          by_cases m0 : m = 0
          · rw [if_pos m0, List.append_nil] at hG
            subst hG
            clear m0
            go_wp2_with fail
            go_loopw [14] (fun v14 wq => ∃ (q : Nat), q ≤ G.length ∧ v14 = .int .i64 (q : Nat) ∧ OwnFs wq N2 28 (.slice a8 G.length x8) G ∧ OwnFs wq N3 28 (.slice a12 (G.length) x12) G ∧ Below w.heap.size w wq) (fun v14 _ => G.length - (intOf v14).toNat)
            case atStart => exact ⟨0, by omega, rfl, OC2.out, O12.out, B2.out⟩
            case round =>
              obtain ⟨q, hq, rfl, of, og, bq⟩ := hrel
              have OF := Lib.hid of
              have OG := Lib.hid og
              have BQ := Lib.hid bq
              clear OC2 O12 B2
              by_cases hlt : q < G.length
              case pos =>
                have p4 : decide (q < G.length) = true := decide_eq_true hlt
                have HLT3 := Lib.hid hlt
                obtain ⟨g, cap', A, e', fa, hA, cA⟩ := og.get q (by exact hlt)
                injection e' with e1 e2 e3
                subst e1 e3
                obtain ⟨g', cap'', A', e', fa', hA', cA'⟩ := of.get q hlt
                injection e' with e1 e2 e3
                subst e1 e3
                obtain ⟨fi, hfi⟩ : ∃ fi, G.getD q fr0 = fi := ⟨_, rfl⟩
                have hfit : fi.fits := (HCP.out fi (by rw [← hfi, List.getD_eq_getElem?_getD, List.getElem?_eq_getElem hlt]; exact List.getElem_mem hlt)).2.2.1
                rw [hfi] at fa fa'
                have l1 := load_ten AgFF wr.drew g (q * 10) A hA (fun k hk => cA k hk)
                have l2 := load_ten AgFF wr.drew g' (q * 10) A' hA' (fun k hk => cA' k hk)
                have BD : Below wr.heap.size wr wr.drew := (Below.refl _ _).drew
                have FA := Lib.hid (fa.fv.below BD)
                have FA' := Lib.hid (fa'.fv.below BD)
                have FIT := Lib.hid hfit
                have HJ1 := Lib.hid (show wrap64 ((q : Int) + 1) = (q : Int) + 1 from IntWalk.wrap64_in _ (by have := HD0.out; omega))
                clear of og bq fa fa' cA cA' hfi hfit BD
                go_wp2_with fail
                refine Rg.wp_region_plan (Rg.row [(0, 3), (1, 3), (2, 3), (3, 0), (4, 3), (5, 3), (6, 3), (7, 0), (8, 1), (9, 3)] []) [] (by kernel_rfl) (by kernel_rfl) ?_
                simp only [Rg.row, Rg.PT.map, List.map_nil, List.getD_cons_zero, List.getD_cons_succ]
                go_wp2_with (first
                  | ((with_reducible refine Rg.plan_pure ?_ ?_ ?_); kernel_rfl; kernel_rfl; intro _ _)
                  | ((with_reducible refine Rg.plan_take ?_ ?_ ?_); kernel_rfl; kernel_rfl; intro _ _)
                  | ((with_reducible refine Rg.plan_keep ?_ ?_); kernel_rfl; intro K hK)
                  | (refine hK _ _ (Rg.Keep.refl _) ?_; clear hK)
                  | (refine hK _ _ (Rg.Keep.of_below (by assumption)) ?_; clear hK)
                  | ((with_reducible refine Rg.plan_skip ?_ ?_); kernel_rfl)
                  | (with_reducible refine Rg.plan_done ?_)
                  | (with_reducible refine Rg.calm_normal ?_))
                have hs := rsame_fr fi fi FIT.out FIT.out (.agg A) (.agg A') wr.drew FA.out FA'.out
                rw [sameB_self] at hs
                refine hs.mono ?_
                rintro e w8 ⟨rfl, h8⟩
                refine hK _ _ (Rg.Keep.of_below h8) ?_
                have bD := (Below.refl wr.heap.size wr).drew
                have OF8 := Lib.hid ((OF.out.below bD).below h8)
                have OG8 := Lib.hid ((OG.out.below bD).below h8)
                have BQ8 := Lib.hid (BQ.out.drew.trans (h8.mono BQ.out.drew.size))
                clear hK hs h8 FA FA' OF OG BQ bD l1 l2
                go_wp2_with (first
                  | ((with_reducible refine Rg.plan_pure ?_ ?_ ?_); kernel_rfl; kernel_rfl; intro _ _)
                  | ((with_reducible refine Rg.plan_take ?_ ?_ ?_); kernel_rfl; kernel_rfl; intro _ _)
                  | ((with_reducible refine Rg.plan_keep ?_ ?_); kernel_rfl; intro K hK)
                  | (refine hK _ _ (Rg.Keep.refl _) ?_; clear hK)
                  | (refine hK _ _ (Rg.Keep.of_below (by assumption)) ?_; clear hK)
                  | ((with_reducible refine Rg.plan_skip ?_ ?_); kernel_rfl)
                  | (with_reducible refine Rg.plan_done ?_)
                  | (with_reducible refine Rg.calm_normal ?_))
                go_roundw
                case rel => exact ⟨q + 1, HLT3.out, by first | exact congrArg (Value.int .i64) HJ1.out | rfl, OF8.out, OG8.out, BQ8.out⟩
                case measure => first | (rw [HJ1.out]; exact meas HLT3.out) | exact meas HLT3.out
              case neg =>
                have p4 : decide (q < G.length) = false := decide_eq_false hlt
                clear of og bq hlt hq
                go_wp2_with fail
                refine (awake_any _).mono ?_
                rintro e wx ⟨rfl, hx⟩
                have BX := Lib.hid (BQ.out.trans (hx.mono BQ.out.size))
                clear hx
                go_wp2_with fail
                go_ret
                exact ⟨rfl, BX.out⟩
          · rw [if_neg m0] at hG
            have hgl : G.length = C.length + 1 := by rw [hG]; simp
            have hgk : G.getD C.length fr0 = padF m := by rw [hG]; simp [List.getD]
            have HGG := Lib.hid (fun (q : Nat) (hq : q < C.length) => (show G.getD q fr0 = C.getD q fr0 by rw [hG]; simp [List.getD, List.getElem?_append_left hq]))
            obtain ⟨g12, cap', A, e', fa, hA, cA⟩ := O12.out.get C.length (by omega)
            injection e' with e1 e2 e3
            subst e1 e3
            rw [hgk] at fa
            have ck : w2.cell? ⟨g12, C.length * 10, none⟩ = some (.int .i64 0) := (cA 0 (by decide)).trans (by obtain ⟨_, _, _, _, e, _⟩ := fa; rw [e]; rfl)
            rw [hgl]
            have HGL := Lib.hid hgl
            have q5 : ((C.length : Int) + 1 != (C.length : Int)) = true := by rw [bne_iff_ne]; omega
            have wq1 : wrap64 ((C.length : Int) + 1) = (C.length : Int) + 1 := IntWalk.wrap64_in _ (by have := HD0.out; omega)
            have wq2 : wrap64 (C.length : Int) = (C.length : Int) := IntWalk.wrap64_in _ (by clear wq1; have := HD0.out; omega)
            clear hG m0 hgk fa hA cA hgl e2
            go_wp2_with fail
            go_loopw [14] (fun v14 wq => ∃ (q : Nat), q ≤ C.length ∧ v14 = .int .i64 (q : Nat) ∧ OwnFs wq N2 28 (.slice a8 C.length x8) C ∧ OwnFs wq N3 28 (.slice (some ⟨g12, 0, none⟩) (C.length + 1) x12) G ∧ Below w.heap.size w wq) (fun v14 _ => C.length - (intOf v14).toNat)
            case atStart => exact ⟨0, by omega, rfl, OC2.out, (by rw [← HGL.out]; exact O12.out), B2.out⟩
            case round =>
              obtain ⟨q, hq, rfl, of, og, bq⟩ := hrel
              have OF := Lib.hid of
              have OG := Lib.hid og
              have BQ := Lib.hid bq
              clear OC2 O12 B2
              by_cases hlt : q < C.length
              case pos =>
                have p4 : decide (q < C.length) = true := decide_eq_true hlt
                have HLT3 := Lib.hid hlt
                have hq1 : q < C.length + 1 := Nat.lt_succ_of_lt hlt
                obtain ⟨g, cap', A, e', fa, hA, cA⟩ := (show OwnFs wr N3 28 (.slice (some ⟨g12, 0, none⟩) G.length x12) G by rw [HGL.out]; exact og).get q (by have := HGL.out; omega)
                injection e' with e1 e2 e3
                injection e1 with e1
                injection e1 with e1
                subst e1 e3
                obtain ⟨g', cap'', A', e', fa', hA', cA'⟩ := of.get q hlt
                injection e' with e1 e2 e3
                subst e1 e3
                rw [HGG.out q hlt] at fa
                obtain ⟨fi, hfi⟩ : ∃ fi, C.getD q fr0 = fi := ⟨_, rfl⟩
                have hfit : fi.fits := (HCP.out fi (by rw [← hfi, List.getD_eq_getElem?_getD, List.getElem?_eq_getElem hlt]; exact List.getElem_mem hlt)).2.2.1
                rw [hfi] at fa fa'
                have l1 := load_ten AgFF wr.drew g12 (q * 10) A hA (fun k hk => cA k hk)
                have l2 := load_ten AgFF wr.drew g' (q * 10) A' hA' (fun k hk => cA' k hk)
                have BD : Below wr.heap.size wr wr.drew := (Below.refl _ _).drew
                have FA := Lib.hid (fa.fv.below BD)
                have FA' := Lib.hid (fa'.fv.below BD)
                have FIT := Lib.hid hfit
                have HJ1 := Lib.hid (show wrap64 ((q : Int) + 1) = (q : Int) + 1 from IntWalk.wrap64_in _ (by clear wq1 wq2; have := HD0.out; omega))
                clear of og bq fa fa' cA cA' hfi hfit BD
                go_wp2_with fail
                refine Rg.wp_region_plan (Rg.row [(0, 3), (1, 3), (2, 3), (3, 0), (4, 3), (5, 3), (6, 3), (7, 0), (8, 1), (9, 3)] []) [] (by kernel_rfl) (by kernel_rfl) ?_
                simp only [Rg.row, Rg.PT.map, List.map_nil, List.getD_cons_zero, List.getD_cons_succ]
                go_wp2_with (first
                  | ((with_reducible refine Rg.plan_pure ?_ ?_ ?_); kernel_rfl; kernel_rfl; intro _ _)
                  | ((with_reducible refine Rg.plan_take ?_ ?_ ?_); kernel_rfl; kernel_rfl; intro _ _)
                  | ((with_reducible refine Rg.plan_keep ?_ ?_); kernel_rfl; intro K hK)
                  | (refine hK _ _ (Rg.Keep.refl _) ?_; clear hK)
                  | (refine hK _ _ (Rg.Keep.of_below (by assumption)) ?_; clear hK)
                  | ((with_reducible refine Rg.plan_skip ?_ ?_); kernel_rfl)
                  | (with_reducible refine Rg.plan_done ?_)
                  | (with_reducible refine Rg.calm_normal ?_))
                have hs := rsame_fr fi fi FIT.out FIT.out (.agg A) (.agg A') wr.drew FA.out FA'.out
                rw [sameB_self] at hs
                refine hs.mono ?_
                rintro e w8 ⟨rfl, h8⟩
                refine hK _ _ (Rg.Keep.of_below h8) ?_
                have bD := (Below.refl wr.heap.size wr).drew
                have OF8 := Lib.hid ((OF.out.below bD).below h8)
                have OG8 := Lib.hid ((OG.out.below bD).below h8)
                have BQ8 := Lib.hid (BQ.out.drew.trans (h8.mono BQ.out.drew.size))
                clear hK hs h8 FA FA' OF OG BQ bD l1 l2
                go_wp2_with (first
                  | ((with_reducible refine Rg.plan_pure ?_ ?_ ?_); kernel_rfl; kernel_rfl; intro _ _)
                  | ((with_reducible refine Rg.plan_take ?_ ?_ ?_); kernel_rfl; kernel_rfl; intro _ _)
                  | ((with_reducible refine Rg.plan_keep ?_ ?_); kernel_rfl; intro K hK)
                  | (refine hK _ _ (Rg.Keep.refl _) ?_; clear hK)
                  | (refine hK _ _ (Rg.Keep.of_below (by assumption)) ?_; clear hK)
                  | ((with_reducible refine Rg.plan_skip ?_ ?_); kernel_rfl)
                  | (with_reducible refine Rg.plan_done ?_)
                  | (with_reducible refine Rg.calm_normal ?_))
                go_roundw
                case rel => exact ⟨q + 1, HLT3.out, by first | exact congrArg (Value.int .i64) HJ1.out | rfl, OF8.out, OG8.out, BQ8.out⟩
                case measure => first | (rw [HJ1.out]; exact meas HLT3.out) | exact meas HLT3.out
              case neg =>
                have p4 : decide (q < C.length) = false := decide_eq_false hlt
                clear of og bq hlt hq
                go_wp2_with fail
                refine (awake_any _).mono ?_
                rintro e wx ⟨rfl, hx⟩
                have BX := Lib.hid (BQ.out.trans (hx.mono BQ.out.size))
                clear hx
                go_wp2_with fail
                go_ret
                exact ⟨rfl, BX.out⟩
end Go.Proofs.Ytipniobgijdlkaa
