/- The walks of the document's Turn and Sums, and of a complex number of two whole ones. -/
import Derived.Test.YtenoldpfclmedaaTonW5
import Derived.Test.YtenoldpfclmedaaTonW4
import Derived.RegionTactic
import Derived.BigRegion
namespace Tone
open Go Go.Rw
/-- the sums as two numbers each -/
def two (f : Nat → Int) (j c : Nat) : Int := if c = 0 then re f j else im f j
def rl (F : Nat → Nat → Int) : List Int := (List.range 8).map fun i => F (i / 2) (i % 2)
theorem rl_len (F : Nat → Nat → Int) : (rl F).length = 8 := by simp [rl]
theorem rl_0 (F : Nat → Nat → Int) (k : Nat) (h : k < 4) : ni (rl F) (k * 2) = F k 0 := by
  rcases (by omega : k = 0 ∨ k = 1 ∨ k = 2 ∨ k = 3) with rfl | rfl | rfl | rfl <;> simp [rl, ni, List.range_succ]
theorem rl_1 (F : Nat → Nat → Int) (k : Nat) (h : k < 4) : ni (rl F) (k * 2 + 1) = F k 1 := by
  rcases (by omega : k = 0 ∨ k = 1 ∨ k = 2 ∨ k = 3) with rfl | rfl | rfl | rfl <;> simp [rl, ni, List.range_succ]
theorem rl_set (F G : Nat → Nat → Int) (k : Nat) (h : k < 4) (hs : ∀ j c, j ≠ k → G j c = F j c) : ((rl F).set (k * 2) (G k 0)).set (k * 2 + 1) (G k 1) = rl G := by
  have e0 := fun c => hs 0 c
  have e1 := fun c => hs 1 c
  have e2 := fun c => hs 2 c
  have e3 := fun c => hs 3 c
  rcases (by omega : k = 0 ∨ k = 1 ∨ k = 2 ∨ k = 3) with rfl | rfl | rfl | rfl <;> simp [rl, List.range_succ] <;> simp_all
def okP (l : List Int) (n : Nat) : Prop := ∀ i, i < n → -1048576 ≤ ni l i ∧ ni l i ≤ 1048576
theorem q4_leP (l : List Int) : ∀ n, okP l n → ∀ j, (q4 l n j).natAbs ≤ n * 1048576
  | 0, _, _ => by simp [q4]
  | n + 1, h, j => by
    have ih := q4_leP l n (fun i hi => h i (by omega)) j
    have hx := h n (by omega)
    simp only [q4, bump]
    split <;> omega
theorem q4_smallP {l : List Int} {n : Nat} (h : okP l n) (hn : n ≤ 1048576) : small (q4 l n) := fun j => by
  have := q4_leP l n h j
  omega
def mixF (f g : Nat → Int) (k : Nat) (j c : Nat) : Int := if j < k then two g j c else two f j c
theorem mix0 (f g : Nat → Int) : rl (mixF f g 0) = rl (two f) := by unfold rl mixF; simp
theorem mix4 (f g : Nat → Int) : rl (mixF f g 4) = rl (two g) := by
  simp [rl, mixF, List.range_succ]
end Tone
namespace Go.Proofs.Ytenoldpfclmedaa
open Go.RowKit Go.Rw Tone
set_option maxHeartbeats 400000 in
theorem rturn_any (t : Int) (w : World) :
    Calls Try.prog 13 #[.int .i64 t] w fun e w' => e = .returned (.tuple #[.int .i64 (cs t), .int .i64 (sn t)]) ∧ w = w' := by
  have e1 := (u64_nonneg t).1
  obtain ⟨u, hu⟩ : ∃ u : Nat, IntKind.u64.wrap t = (u : Int) := ⟨(IntKind.u64.wrap t).toNat, by omega⟩
  have hq : (u : Int) % 4 = t % 4 := by
    rw [← hu]; simp only [IntKind.wrap_u64]; omega
  obtain ⟨q, hq2⟩ : ∃ q, t % 4 = q := ⟨_, rfl⟩
  have hq0 : 0 ≤ q := by omega
  have hq4 : q < 4 := by omega
  have hc : cs t = if q = 0 then 1 else if q = 2 then -1 else 0 := by unfold cs; rw [hq2]
  have hs : sn t = if q = 1 then -1 else if q = 3 then 1 else 0 := by unfold sn; rw [hq2]
  rw [hq2] at hq
  have hc1 : ∀ W : World, (Go.convert 3 48 (.int .i64 t)).run Try.prog W = .ok (.int .u64 (u : Nat)) W := fun W => by
    simp [Go.convert, go_sem, Conv.intToInt, hu]
  rw [hc, hs]
  clear hc hs hq2 e1 hu
  have : q = 0 ∨ q = 1 ∨ q = 2 ∨ q = 3 := by omega
  go_enter Try.func13, Try.ntmps13
  rcases this with rfl | rfl | rfl | rfl
  · go_wp2
    go_ret2
    exact ⟨rfl, rfl⟩
  · go_wp2
    go_ret2
    exact ⟨rfl, rfl⟩
  · go_wp2
    go_ret2
    exact ⟨rfl, rfl⟩
  · go_wp2
    go_ret2
    exact ⟨rfl, rfl⟩
theorem AgP : Agg Try.prog 27 2 := ⟨⟨_, Try.underlying27, rfl⟩, by kernel_rfl⟩
theorem AgQ : Agg Try.prog 28 8 := ⟨⟨_, Try.underlying28, rfl⟩, by kernel_rfl⟩
theorem ldQ (x : Value) : Instr.loadAt 28 x = loadAgg 28 x := rfl
theorem stQ (x y : Value) : Instr.storeAt 28 x y = storeAgg 28 x y := rfl
theorem alQ : Instr.alloc 28 true (.tuple #[]) = allocAgg 28 := rfl
theorem rldQ (w : World) (b : Nat) (h : (row? w b).map (·.size) = some 8) : (loadAgg 28 (.pointer (some ⟨b, 0, none⟩))).run Try.prog w = .ok (.agg ((row? w b).getD #[])) w := load_rule AgQ w b h
theorem rstQ (w : World) (b : Nat) (c' : Array Value) (h : (row? w b).map (·.size) = some 8) (hn : c'.size = 8) (h1 : allOne c' = true) : (storeAgg 28 (.pointer (some ⟨b, 0, none⟩)) (.agg c')).run Try.prog w = .ok () (w.setRow b c') := store_rule AgQ w b c' h hn h1
theorem ralQ (w : World) : (allocAgg 28).run Try.prog w = .ok (.pointer (some ⟨w.heap.size, 0, none⟩)) (w.alloc (.cells (ivs [0, 0, 0, 0, 0, 0, 0, 0]) 28)) := alloc_rule (n := 8) (by kernel_rfl) w
theorem retQ {fn : Func} {p : Tmp} {R : Ending → World → Prop} {a : Act} {w : World} (b : Nat) (c : Array Value) (hr : fn.results = #[.cell p 28]) (hp : a.tmps.getD p undef = .pointer (some ⟨b, 0, none⟩)) (hd : a.defers = [])
    (h : row? w b = some c) (hn : c.size = 8) (hR : R (.returned (.agg c)) w) : bodyPost Try.prog fn R .ret a w :=
  bodyPost_ret (results_row AgQ hr _ _ b c hp h hn) hd hR
attribute [local go_sem ↓] ldQ stQ alQ
attribute [local go_sem] rldQ rstQ ralQ setRow_alloc_at setRow_alloc_past setRow_drew rl_len
theorem rzero : ivs [0, 0, 0, 0, 0, 0, 0, 0] = ivs (rl (two fun _ => 0)) := by
  simp [rl, two, re, im, List.range_succ]
theorem rzero' (f : Nat → Int) (h : f = fun _ => 0) : ivs [0, 0, 0, 0, 0, 0, 0, 0] = ivs (rl (two f)) := by rw [h]; exact rzero
set_option maxHeartbeats 400000 in
theorem number_any (x y : Int) (w : World) :
    Calls Try.prog 11 #[.agg (ivs [x, y])] w fun e w' => e = .returned (.complex .f64 (floatOfInt .f64 x) (floatOfInt .f64 y)) ∧ Below w.heap.size w w' := by
  have hr : row? (w.alloc (.cells (ivs [x, y]) 27)) w.heap.size = some (ivs [x, y]) := row?_alloc_at _ _ _ _ rfl
  have c0 : (w.alloc (.cells (ivs [x, y]) 27)).cell? ⟨w.heap.size, 0, none⟩ = some (.int .i64 x) := row?_cell hr 0
  have c1 : (w.alloc (.cells (ivs [x, y]) 27)).cell? ⟨w.heap.size, 1, none⟩ = some (.int .i64 y) := row?_cell hr 1
  clear hr
  go_enter Try.func11, Try.ntmps11
  go_wp2_with fail
  go_ret
  exact ⟨rfl, (Below.refl _ _).alloc (Nat.le_refl _) _⟩
theorem mixF_at (f g : Nat → Int) (k : Nat) : mixF f g k k = two f k := by funext c; simp [mixF]
theorem mixF_next (f g : Nat → Int) (k : Nat) (h : k < 4) : ((rl (mixF f g k)).set (k * 2) (re g k)).set (k * 2 + 1) (im g k) = rl (mixF f g (k + 1)) := by
  have := rl_set (mixF f g k) (mixF f g (k + 1)) k h (fun j c hj => by
    unfold mixF
    by_cases h1 : j < k
    · rw [if_pos h1, if_pos (by omega)]
    · rw [if_neg h1, if_neg (by omega)])
  rw [show mixF f g (k + 1) k 0 = re g k by simp [mixF, two], show mixF f g (k + 1) k 1 = im g k by simp [mixF, two]] at this
  exact this
theorem small_le {c : Int} (h : c.natAbs ≤ 1) (x : Int) : (c * x).natAbs ≤ x.natAbs := by
  rw [Int.mul_comm]; exact mul_le1 x c h
set_option maxHeartbeats 2000000 in
theorem rsums_any (l : List Int) (hl : l.length ≤ 60) (v : Value) (w : World) (hv : Si w v l) :
    Calls Try.prog 10 #[v] w fun e w' => e = .returned (.agg (ivs (rl (two (fN l))))) ∧ Below w.heap.size w w' := by
  obtain ⟨ao, cap, rfl, hc, hnn, hp⟩ := hv
  have HR0 := Lib.hid (rzero' (q4 l 0) rfl)
  go_enter Try.func10, Try.ntmps10
  go_wp2_with fail
  go_loopw [4] (fun v wr => ∃ t : Nat, t ≤ l.length ∧ v = .int .i64 t ∧ okP l t ∧ row? wr w.heap.size = some (ivs [0, 0, 0, 0, 0, 0, 0, 0]) ∧ row? wr (w.heap.size + 1) = some (ivs (rl (two (q4 l t)))) ∧ Below w.heap.size w wr) (fun v _ => l.length - (intOf v).toNat)
  case atStart => exact ⟨0, by omega, rfl, fun i hi => by omega, by simp [go_sem], by rw [← HR0.out]; simp [go_sem], bl2 _ _ _⟩
  case round =>
    obtain ⟨t, ht, rfl, hok, h0, h1, hb⟩ := hrel
    have HO := Lib.hid hok
    clear hok
    have H0 := Lib.hid h0
    have H1 := Lib.hid h1
    clear h0 h1
    by_cases hlt : t < l.length
    · obtain ⟨g, off, rfl, hcell⟩ := hp (by omega)
      have c1 := below_cell hb (hcell t hlt) (cell_lt (hcell t hlt))
      have hg : g < w.heap.size := cell_lt (hcell t hlt)
      have hq : q4 l (t + 1) = bump (q4 l t) (t % 4) (ni l t) := rfl
      have hsm := q4_smallP HO.out (by omega)
      have hok2 : (-1048576 ≤ ni l t ∧ ni l t ≤ 1048576) → okP l (t + 1) := fun h i hi => by
        rcases Nat.lt_or_eq_of_le (Nat.le_of_lt_succ hi) with h2 | h2
        · exact HO.out i h2
        · rw [h2]; exact h
      have hsm2 := fun h => q4_smallP (n := t + 1) (hok2 h) (by omega)
      have hbad : ¬ (-1048576 ≤ ni l t ∧ ni l t ≤ 1048576) → fN l = fun _ => 0 := fun h => by
        unfold fN
        rw [if_neg]
        exact fun hh => h (hh t hlt)
      generalize hF : q4 l t = F at *
      generalize hG : q4 l (t + 1) = G at *
      generalize hX : ni l t = x at *
      have HC := Lib.hid hcell
      have HQ := Lib.hid hq
      have HSM := Lib.hid hsm
      have HSM2' := Lib.hid hsm2
      have HOK2 := Lib.hid hok2
      have HBAD := Lib.hid hbad
      clear hcell hq hsm hsm2 hok2 hbad
      have hbadx : ¬ (-1048576 ≤ x ∧ x ≤ 1048576) → rl (two fun _ => 0) = rl (two (fN l)) := fun h => by rw [HBAD.out h]
      have HBX := Lib.hid hbadx
      clear hbadx
      have st := rstQ wr w.heap.size #[.int .i64 0, .int .i64 0, .int .i64 0, .int .i64 0, .int .i64 0, .int .i64 0, .int .i64 0, .int .i64 0] (by rw [H0.out]; rfl) rfl (ivs_all [0, 0, 0, 0, 0, 0, 0, 0])
      by_cases hx2 : 1048576 < x
      · go_wp2_with fail
        exact retQ w.heap.size (ivs [0, 0, 0, 0, 0, 0, 0, 0]) rfl rfl rfl (row?_setRow_eq H0.out) rfl ⟨by rw [rzero, HBX.out (by omega)], below_setRow hb (by omega) _⟩
      by_cases hx1 : x < -1048576
      · go_wp2_with fail
        exact retQ w.heap.size (ivs [0, 0, 0, 0, 0, 0, 0, 0]) rfl rfl rfl (row?_setRow_eq H0.out) rfl ⟨by rw [rzero, HBX.out (by omega)], below_setRow hb (by omega) _⟩
      clear st
      have hxr : -1048576 ≤ x ∧ x ≤ 1048576 := by omega
      have HSM2 := Lib.hid (HSM2'.out hxr)
      have HOK3 := Lib.hid (HOK2.out hxr)
      clear hxr
      go_wp2_with fail
      go_loopw [5] (fun v wi => ∃ k : Nat, k ≤ 4 ∧ v = .int .i64 k ∧ row? wi w.heap.size = some (ivs [0, 0, 0, 0, 0, 0, 0, 0]) ∧ row? wi (w.heap.size + 1) = some (ivs (rl (mixF F G k))) ∧ Below w.heap.size w wi) (fun v _ => 4 - (intOf v).toNat)
      case atStart => exact ⟨0, by omega, rfl, H0.out, by rw [mix0]; exact H1.out, hb⟩
      case round =>
        obtain ⟨k, hk, rfl, h0, h1, hbi⟩ := hrel
        have G0 := Lib.hid h0
        have G1 := Lib.hid h1
        by_cases hlt2 : k < 4
        · have d1 := below_cell hbi (HC.out t hlt) (cell_lt (HC.out t hlt))
          rw [hX] at d1
          have hw : wrap64 ((k : Int) * ((t : Int) % 4)) = (k : Int) * ((t : Int) % 4) := by
            refine IntWalk.wrap64_in _ ?_
            rcases (by omega : k = 0 ∨ k = 1 ∨ k = 2 ∨ k = 3) with rfl | rfl | rfl | rfl <;> omega
          obtain ⟨u, hu⟩ : ∃ u : Int, (k : Int) * ((t : Int) % 4) = u := ⟨_, rfl⟩
          rw [hu] at hw
          have b1 := re_lt HSM.out hlt2
          have b2 := im_lt HSM.out hlt2
          have b3 := small_le (cs_le u) x
          have b4 := small_le (sn_le u) x
          have k1 : re F k + cs u * x = re G k := by rw [HQ.out, re_bump F (t % 4) x k (by omega), Int.mul_comm, ← hu]; simp
          have k2 : im F k + sn u * x = im G k := by rw [HQ.out, im_bump F (t % 4) x k (by omega), Int.mul_comm, ← hu]; simp
          have b5 := re_lt HSM2.out hlt2
          have b6 := im_lt HSM2.out hlt2
          have w1 : wrap64 (cs u * x) = cs u * x := IntWalk.wrap64_in _ (by omega)
          have w2 : wrap64 (sn u * x) = sn u * x := IntWalk.wrap64_in _ (by omega)
          have w3 : wrap64 (re F k + cs u * x) = re G k := by rw [k1]; exact IntWalk.wrap64_in _ (by omega)
          have w4 : wrap64 (im F k + sn u * x) = im G k := by rw [k2]; exact IntWalk.wrap64_in _ (by omega)
          have q0 : wr.cell? ⟨w.heap.size + 1, k * 2, none⟩ = some (.int .i64 (re F k)) := (row?_cell h1 _).trans (by rw [ivs_getElem?, rl_len, if_pos (by omega), rl_0 _ _ hlt2, mixF_at]; rfl)
          have q1 : wr.cell? ⟨w.heap.size + 1, k * 2 + 1, none⟩ = some (.int .i64 (im F k)) := (row?_cell h1 _).trans (by rw [ivs_getElem?, rl_len, if_pos (by omega), rl_1 _ _ hlt2, mixF_at]; rfl)
          have f0 := row?_frozen h1 (k * 2)
          have f1 := row?_frozen h1 (k * 2 + 1)
          have B12 := Lib.hid (And.intro b1 b2)
          have hne : g ≠ w.heap.size + 1 := by omega
          clear h0 h1 b1 b2 b3 b4 b5 b6 k1 k2
          have hmn := mixF_next F G k hlt2
          have HMN := Lib.hid hmn
          clear hmn
          generalize hcs : cs u = cu at *
          generalize hsn : sn u = su at *
          generalize re F k = rf at *
          generalize im F k = mf at *
          generalize re G k = rg at *
          generalize im G k = mg at *
          go_wp2_with fail
          refine (rturn_any _ _).mono ?_
          rintro e w' ⟨rfl, rfl⟩
          rw [hcs, hsn]
          go_wp2_with fail
          go_region
          all_goals (go_wp2_with fail)
          go_roundw
          case rel =>
            refine ⟨k + 1, by omega, by go_num, ?_, ?_, ((hbi.setCell (by simp) _).setCell (by simp) _).drew⟩
            · rw [row?_drew, row?_setCell_ne _ _ _ _ (by simp), row?_setCell_ne _ _ _ _ (by simp)]; exact G0.out
            · rw [row?_drew, row?_setCell_eq (row?_setCell_eq G1.out _), ivs_set, ivs_set, ← HMN.out]
          case measure => simp [intOf]; omega
        · obtain rfl : k = 4 := by omega
          rw [mix4] at G1
          clear h0 h1
          go_wp2_with fail
          go_roundw
          case rel => exact ⟨t + 1, by omega, by go_num, HOK3.out, G0.out, by rw [hG]; exact G1.out, hbi⟩
          case measure => simp [intOf]; omega
    · obtain rfl : t = l.length := by omega
      have hfn := fN_ok (l := l) HO.out
      have HFN := Lib.hid hfn
      clear hfn
      have G0 := H0.out
      have G1 := H1.out
      go_wp2_with fail
      exact retQ w.heap.size (ivs (rl _)) rfl rfl rfl (row?_setRow_eq G0) (by rw [ivs_size, rl_len]) ⟨by rw [HFN.out], below_setRow hb (by omega) _⟩
end Go.Proofs.Ytenoldpfclmedaa
