/- The walk of package tone's Sums. -/
import Derived.Test.YtenoldpfclmedaaTonW1
import Derived.Test.YtenoldpfclmedaaLibI
import Derived.Test.YtenoldpfclmedaaLow
namespace Tone
open Go Go.Rw
/-- four complex numbers as a row -/
def zv (z : Nat → Nat × Nat) : Array Value := #[.complex .f64 (z 0).1 (z 0).2, .complex .f64 (z 1).1 (z 1).2, .complex .f64 (z 2).1 (z 2).2, .complex .f64 (z 3).1 (z 3).2]
@[go_sem] theorem zv_size (z : Nat → Nat × Nat) : (zv z).size = 4 := by simp [zv]
@[go_sem] theorem zv_all (z : Nat → Nat × Nat) : allOne (zv z) = true := by simp [allOne, zv, Value.oneCell']
theorem zv_get (z : Nat → Nat × Nat) (k : Nat) (h : k < 4) : (zv z)[k]? = some (.complex .f64 (z k).1 (z k).2) := by
  rcases (by omega : k = 0 ∨ k = 1 ∨ k = 2 ∨ k = 3) with rfl | rfl | rfl | rfl <;> rfl
theorem zv_set (z : Nat → Nat × Nat) (k : Nat) (a b : Nat) (h : k < 4) : (zv z).setIfInBounds k (.complex .f64 a b) = zv (fun j => if j = k then (a, b) else z j) := by
  rcases (by omega : k = 0 ∨ k = 1 ∨ k = 2 ∨ k = 3) with rfl | rfl | rfl | rfl <;> rfl
/-- the parts of the sums of four numbers -/
def re (f : Nat → Int) (k : Nat) : Int := f 0 * cs (k * 0) + f 1 * cs (k * 1) + f 2 * cs (k * 2) + f 3 * cs (k * 3)
def im (f : Nat → Int) (k : Nat) : Int := f 0 * sn (k * 0) + f 1 * sn (k * 1) + f 2 * sn (k * 2) + f 3 * sn (k * 3)
theorem re0 (f : Nat → Int) : re f 0 = f 0 + f 1 + f 2 + f 3 := by simp [re, cs]
theorem re1 (f : Nat → Int) : re f 1 = f 0 - f 2 := by simp [re, cs]; omega
theorem re2 (f : Nat → Int) : re f 2 = f 0 - f 1 + f 2 - f 3 := by simp [re, cs]; omega
theorem re3 (f : Nat → Int) : re f 3 = f 0 - f 2 := by simp [re, cs]; omega
theorem im0 (f : Nat → Int) : im f 0 = 0 := by simp [im, sn]
theorem im1 (f : Nat → Int) : im f 1 = f 3 - f 1 := by simp [im, sn]; omega
theorem im2 (f : Nat → Int) : im f 2 = 0 := by simp [im, sn]
theorem im3 (f : Nat → Int) : im f 3 = f 1 - f 3 := by simp [im, sn]; omega
/-- one number more -/
def bump (f : Nat → Int) (i : Nat) (x : Int) : Nat → Int := fun j => f j + if i = j then x else 0
theorem re_bump (f : Nat → Int) (i : Nat) (x : Int) (k : Nat) (h : i < 4) : re (bump f i x) k = re f k + x * cs (k * i) := by
  rcases (by omega : i = 0 ∨ i = 1 ∨ i = 2 ∨ i = 3) with rfl | rfl | rfl | rfl <;> simp [re, bump, Int.add_mul] <;> omega
theorem im_bump (f : Nat → Int) (i : Nat) (x : Int) (k : Nat) (h : i < 4) : im (bump f i x) k = im f k + x * sn (k * i) := by
  rcases (by omega : i = 0 ∨ i = 1 ∨ i = 2 ∨ i = 3) with rfl | rfl | rfl | rfl <;> simp [im, bump, Int.add_mul] <;> omega
/-- the four numbers of the first n of a row -/
def q4 (l : List Int) : Nat → Nat → Int
  | 0 => fun _ => 0
  | n + 1 => bump (q4 l n) (n % 4) (ni l n)
def okN (l : List Int) : Prop := ∀ i, i < l.length → -1048576 ≤ ni l i ∧ ni l i ≤ 1048576
theorem q4_le (l : List Int) (h : okN l) : ∀ n, n ≤ l.length → ∀ j, (q4 l n j).natAbs ≤ n * 1048576
  | 0, _, _ => by simp [q4]
  | n + 1, hn, j => by
    have ih := q4_le l h n (by omega) j
    have hx := h n (by omega)
    simp only [q4, bump]
    split <;> omega
def small (f : Nat → Int) : Prop := ∀ j, (f j).natAbs ≤ 1099511627776
theorem q4_small {l : List Int} (h : okN l) (hl : l.length ≤ 1048576) {n : Nat} (hn : n ≤ l.length) : small (q4 l n) := fun j => by
  have := q4_le l h n hn j
  omega
theorem re_lt {f : Nat → Int} (h : small f) {k : Nat} (hk : k < 4) : (re f k).natAbs ≤ 4398046511104 := by
  have h0 := h 0
  have h1 := h 1
  have h2 := h 2
  have h3 := h 3
  rcases (by omega : k = 0 ∨ k = 1 ∨ k = 2 ∨ k = 3) with rfl | rfl | rfl | rfl
  · rw [re0]; omega
  · rw [re1]; omega
  · rw [re2]; omega
  · rw [re3]; omega
theorem im_lt {f : Nat → Int} (h : small f) {k : Nat} (hk : k < 4) : (im f k).natAbs ≤ 4398046511104 := by
  have h1 := h 1
  have h3 := h 3
  rcases (by omega : k = 0 ∨ k = 1 ∨ k = 2 ∨ k = 3) with rfl | rfl | rfl | rfl
  · rw [im0]; omega
  · rw [im1]; omega
  · rw [im2]; omega
  · rw [im3]; omega
theorem cs_le (t : Int) : (cs t).natAbs ≤ 1 := by unfold cs; split; omega; split <;> omega
theorem sn_le (t : Int) : (sn t).natAbs ≤ 1 := by unfold sn; split; omega; split <;> omega
theorem mul_le1 (x c : Int) (h : c.natAbs ≤ 1) : (x * c).natAbs ≤ x.natAbs := by
  rw [Int.natAbs_mul]
  exact Nat.le_trans (Nat.mul_le_mul_left _ h) (by omega)
/-- four words of sums -/
def FlZ (z : Nat → Nat × Nat) (f : Nat → Int) : Prop := ∀ k, k < 4 → Fl (z k).1 (re f k) ∧ Fl (z k).2 (im f k)
/-- one step of one sum -/
theorem step_Fl {f : Nat → Int} (hf : small f) {i k : Nat} {x : Int} (hi : i < 4) (hk : k < 4) (hx : x.natAbs ≤ 1048576) {p q a b c d : Nat} (hp : Fl p (re f k)) (hq : Fl q (im f k)) (ha : Fl a x) (hb : Fl b 0) (hc : Fl c (cs (k * i))) (hd : Fl d (sn (k * i))) :
    ∃ u v p' q', cMulBits a b c d = some (u, v) ∧ cSumBits .add .f64 p q u v = some (p', q') ∧ Fl p' (re (bump f i x) k) ∧ Fl q' (im (bump f i x) k) := by
  have m1 := mul_le1 x _ (cs_le (k * i))
  have m2 := mul_le1 x _ (sn_le (k * i))
  have r1 := re_lt hf hk
  have r2 := im_lt hf hk
  obtain ⟨u, v, e1, g1, g2⟩ := cmul_Fl ha hb hc hd (by omega) (by simp) (by omega) (by simp) (by simp; omega) (by simp; omega)
  simp only [Int.zero_mul, Int.sub_zero, Int.add_zero] at g1 g2
  obtain ⟨p', q', e2, g3, g4⟩ := csum_Fl hp hq g1 g2 (by omega) (by omega)
  refine ⟨u, v, p', q', e1, e2, ?_, ?_⟩
  · rw [re_bump f i x k hi]; exact g3
  · rw [im_bump f i x k hi]; exact g4
end Tone
namespace Go.Proofs.Ytenoldpfclmedaa
open Go.RowKit Go.Rw Tone
theorem AgZ : Agg Try.prog 25 4 := ⟨⟨_, Try.underlying25, rfl⟩, by kernel_rfl⟩
theorem ldZ (x : Value) : Instr.loadAt 25 x = loadAgg 25 x := rfl
theorem stZ (x y : Value) : Instr.storeAt 25 x y = storeAgg 25 x y := rfl
theorem alZ : Instr.alloc 25 true (.tuple #[]) = allocAgg 25 := rfl
theorem rldZ (w : World) (b : Nat) (h : (row? w b).map (·.size) = some 4) : (loadAgg 25 (.pointer (some ⟨b, 0, none⟩))).run Try.prog w = .ok (.agg ((row? w b).getD #[])) w := load_rule AgZ w b h
theorem rstZ (w : World) (b : Nat) (c' : Array Value) (h : (row? w b).map (·.size) = some 4) (hn : c'.size = 4) (h1 : allOne c' = true) : (storeAgg 25 (.pointer (some ⟨b, 0, none⟩)) (.agg c')).run Try.prog w = .ok () (w.setRow b c') := store_rule AgZ w b c' h hn h1
theorem ralZ (w : World) : (allocAgg 25).run Try.prog w = .ok (.pointer (some ⟨w.heap.size, 0, none⟩)) (w.alloc (.cells (zv fun _ => (0, 0)) 25)) := alloc_rule (n := 4) (by kernel_rfl) w
theorem retZ {fn : Func} {p : Tmp} {R : Ending → World → Prop} {a : Act} {w : World} (b : Nat) (c : Array Value) (hr : fn.results = #[.cell p 25]) (hp : a.tmps.getD p undef = .pointer (some ⟨b, 0, none⟩)) (hd : a.defers = [])
    (h : row? w b = some c) (hn : c.size = 4) (hR : R (.returned (.agg c)) w) : bodyPost Try.prog fn R .ret a w :=
  bodyPost_ret (results_row AgZ hr _ _ b c hp h hn) hd hR
theorem run_store_cx (P : Program) (w : World) (a : Addr) (m : Mode) (k : FloatKind) (x y : Nat) : (store a (.complex k x y) m).run P w = stored P w a (.complex k x y) m := run_store P w a _ m rfl
attribute [local go_sem ↓] ldZ stZ alZ and3
attribute [local go_sem] rldZ rstZ ralZ setRow_alloc_at setRow_alloc_past setRow_drew run_store_cx
theorem FlZ0 : FlZ (fun _ => (0, 0)) (fun _ => 0) := fun k hk => by
  constructor
  · rw [show re (fun _ => 0) k = 0 by simp [re]]; exact fl0
  · rw [show im (fun _ => 0) k = 0 by simp [im]]; exact fl0
theorem flInt (x : Int) (h : x.natAbs ≤ 1048576) : Fl (floatOfInt .f64 x) x := ofInt_Fl (by omega)
set_option maxHeartbeats 1000000 in
theorem sums_any (l : List Int) (hl : l.length ≤ 1048576) (ho : okN l) (v : Value) (w : World) (hv : Si w v l) :
    Calls Try.prog 9 #[v] w fun e w' => ∃ z, e = .returned (.agg (zv z)) ∧ FlZ z (q4 l l.length) ∧ Below w.heap.size w w' := by
  obtain ⟨ao, cap, rfl, hc, hnn, hp⟩ := hv
  have HO := Lib.hid ho
  clear ho
  go_enter Try.func9, Try.ntmps9
  go_wp2_with fail
  go_loopw [15] (fun v wr => ∃ t : Nat, t ≤ l.length ∧ v = .int .i64 t ∧ row? wr w.heap.size = some (zv fun _ => (0, 0)) ∧ row? wr (w.heap.size + 1) = some (zv fun _ => (0, 0)) ∧ Below w.heap.size w wr) (fun v _ => l.length - (intOf v).toNat)
  case atStart => exact ⟨0, by omega, rfl, by simp [go_sem], by simp [go_sem], bl2 _ _ _⟩
  case round =>
    obtain ⟨t, ht, rfl, h0, h1, hb⟩ := hrel
    have H0 := Lib.hid h0
    have H1 := Lib.hid h1
    clear h0 h1
    by_cases hlt : t < l.length
    · obtain ⟨g, off, rfl, hcell⟩ := hp (by omega)
      have c1 := below_cell hb (hcell t hlt) (cell_lt (hcell t hlt))
      have hx := HO.out t hlt
      generalize ni l t = x at *
      obtain ⟨hx1, hx2⟩ := hx
      have HC := Lib.hid hcell
      clear hcell
      go_wp2_with fail
      go_roundw
      case rel => exact ⟨t + 1, by omega, by go_num, H0.out, H1.out, hb⟩
      case measure => simp [intOf]; omega
    · go_wp2_with fail
      clear ht hlt
      go_loopw [29] (fun v wr => ∃ (t : Nat) (z : Nat → Nat × Nat), t ≤ l.length ∧ v = .int .i64 t ∧ row? wr w.heap.size = some (zv fun _ => (0, 0)) ∧ row? wr (w.heap.size + 1) = some (zv z) ∧ FlZ z (q4 l t) ∧ Below w.heap.size w wr) (fun v _ => l.length - (intOf v).toNat)
      case atStart => exact ⟨0, _, by omega, rfl, H0.out, H1.out, FlZ0, hb⟩
      case round =>
        obtain ⟨t, z, ht, rfl, h0, h1, hz, hb⟩ := hrel
        have G0 := Lib.hid h0
        have G1 := Lib.hid h1
        have HZ := Lib.hid hz
        clear h0 h1 hz H0 H1
        by_cases hlt : t < l.length
        · obtain ⟨g, off, rfl, hcell⟩ := hp (by omega)
          have c1 := below_cell hb (hcell t hlt) (cell_lt (hcell t hlt))
          have HC := Lib.hid hcell
          clear hcell
          go_wp2_with fail
          go_loopw [34] (fun v wr => ∃ (k : Nat) (z' : Nat → Nat × Nat), k ≤ 4 ∧ v = .int .i64 k ∧ row? wr w.heap.size = some (zv fun _ => (0, 0)) ∧ row? wr (w.heap.size + 1) = some (zv z') ∧ (∀ j, j < 4 → Fl (z' j).1 (re (if j < k then q4 l (t + 1) else q4 l t) j) ∧ Fl (z' j).2 (im (if j < k then q4 l (t + 1) else q4 l t) j)) ∧ Below w.heap.size w wr) (fun v _ => 4 - (intOf v).toNat)
          case atStart => exact ⟨0, z, by omega, rfl, G0.out, G1.out, fun j hj => by simpa using HZ.out j hj, hb⟩
          case round =>
            obtain ⟨k, z', hk, rfl, h0, h1, hz', hb⟩ := hrel
            by_cases hlt2 : k < 4
            · have hfl := hz' k hlt2
              rw [if_neg (by omega)] at hfl
              obtain ⟨hfl1, hfl2⟩ := hfl
              have cz := (row?_cell h1 k).trans (zv_get z' k hlt2)
              have fz := row?_frozen h1 k
              have K0 := Lib.hid h0
              have K1 := Lib.hid h1
              have KZ := Lib.hid hz'
              clear h0 h1 hz'
              generalize (z' k).1 = p at *
              generalize (z' k).2 = q at *
              have F1 := Lib.hid hfl1
              have F2 := Lib.hid hfl2
              have hw : wrap64 ((k : Int) * ((t : Int) % 4)) = (k : Int) * ((t : Int) % 4) := by
                refine IntWalk.wrap64_in _ ?_
                rcases (by omega : k = 0 ∨ k = 1 ∨ k = 2 ∨ k = 3) with rfl | rfl | rfl | rfl <;> omega
              have hxx := HO.out t hlt
              have HX := Lib.hid hxx
              have hq : q4 l (t + 1) = bump (q4 l t) (t % 4) (ni l t) := rfl
              have HQ := Lib.hid hq
              clear hxx hfl1 hfl2 hq
              generalize ni l t = x at *
              go_wp2_with fail
              refine Rg.wp_region_plan (Rg.row [(0, 3), (1, 3), (2, 0), (3, 3), (4, 3), (5, 3), (6, 3), (7, 3), (8, 3), (9, 3), (10, 1), (11, 1), (12, 1), (13, 3)] [14]) [14] (by kernel_rfl) (by kernel_rfl) ?_
              simp only [Rg.row, Rg.PT.map, List.map_cons, List.map_nil, List.getD_cons_zero, List.getD_cons_succ]
              go_wp2_with (first
                | ((with_reducible refine Rg.plan_pure ?_ ?_ ?_); kernel_rfl; kernel_rfl; intro _ _)
                | ((with_reducible refine Rg.plan_take ?_ ?_ ?_); kernel_rfl; kernel_rfl; intro _ _)
                | ((with_reducible refine Rg.plan_keep ?_ ?_); kernel_rfl; intro K hK)
                | (refine hK _ _ (Rg.Keep.refl _) ?_; clear hK)
                | (refine hK _ _ (Rg.Keep.of_below (by assumption)) ?_; clear hK)
                | ((with_reducible refine Rg.plan_skip ?_ ?_); kernel_rfl)
                | (with_reducible refine Rg.plan_done ?_)
                | (with_reducible refine Rg.calm_normal ?_))
              refine (turn_any _ _).mono ?_
              rintro e w' ⟨c, d, rfl, hc, hd, rfl⟩
              obtain ⟨u, v, p', q', e1, e2, g1, g2⟩ := step_Fl (i := t % 4) (q4_small HO.out hl (Nat.le_of_lt hlt)) (by omega) hlt2 (by have := HX.out; omega) F1.out F2.out (flInt x (by have := HX.out; omega)) fl0 (by simpa using hc) (by simpa using hd)
              rw [← HQ.out] at g1 g2
              have GG := Lib.hid (And.intro g1 g2)
              have hm := fun W => run_complex_mul (P := Try.prog) W 24 _ _ _ _ _ _ e1
              have hs := fun W => run_complex_sum (P := Try.prog) W .add (.inl rfl) 24 _ _ _ _ _ _ _ e2
              clear g1 g2 e1 e2 hc hd
              go_wp2_with (first
                | ((with_reducible refine Rg.plan_pure ?_ ?_ ?_); kernel_rfl; kernel_rfl; intro _ _)
                | ((with_reducible refine Rg.plan_take ?_ ?_ ?_); kernel_rfl; kernel_rfl; intro _ _)
                | ((with_reducible refine Rg.plan_keep ?_ ?_); kernel_rfl; intro K hK)
                | (refine hK _ _ (Rg.Keep.refl _) ?_; clear hK)
                | (refine hK _ _ (Rg.Keep.of_below (by assumption)) ?_; clear hK)
                | ((with_reducible refine Rg.plan_skip ?_ ?_); kernel_rfl)
                | (with_reducible refine Rg.plan_done ?_)
                | (with_reducible refine Rg.calm_normal ?_))
              refine hK _ _ (Rg.Keep.refl _) ?_
              clear hK
              go_wp2_with (first
                | ((with_reducible refine Rg.plan_pure ?_ ?_ ?_); kernel_rfl; kernel_rfl; intro _ _)
                | ((with_reducible refine Rg.plan_take ?_ ?_ ?_); kernel_rfl; kernel_rfl; intro _ _)
                | ((with_reducible refine Rg.plan_keep ?_ ?_); kernel_rfl; intro K hK)
                | (refine hK _ _ (Rg.Keep.refl _) ?_; clear hK)
                | (refine hK _ _ (Rg.Keep.of_below (by assumption)) ?_; clear hK)
                | ((with_reducible refine Rg.plan_skip ?_ ?_); kernel_rfl)
                | (with_reducible refine Rg.plan_done ?_)
                | (with_reducible refine Rg.calm_normal ?_))
              refine hK _ _ (Rg.Keep.refl _) ?_
              clear hK
              go_wp2_with (first
                | ((with_reducible refine Rg.plan_pure ?_ ?_ ?_); kernel_rfl; kernel_rfl; intro _ _)
                | ((with_reducible refine Rg.plan_take ?_ ?_ ?_); kernel_rfl; kernel_rfl; intro _ _)
                | ((with_reducible refine Rg.plan_keep ?_ ?_); kernel_rfl; intro K hK)
                | (refine hK _ _ (Rg.Keep.refl _) ?_; clear hK)
                | (refine hK _ _ (Rg.Keep.of_below (by assumption)) ?_; clear hK)
                | ((with_reducible refine Rg.plan_skip ?_ ?_); kernel_rfl)
                | (with_reducible refine Rg.plan_done ?_)
                | (with_reducible refine Rg.calm_normal ?_))
              go_roundw
              case rel =>
                refine ⟨k + 1, fun j => if j = k then (p', q') else z' j, by omega, by go_num, ?_, ?_, ?_, (hb.setCell (by simp) _).drew⟩
                · rw [row?_drew, row?_setCell_ne _ _ _ _ (by simp)]; exact K0.out
                · rw [row?_drew, row?_setCell_eq K1.out, zv_set _ _ _ _ hlt2]
                · intro j hj
                  by_cases hjk : j = k
                  · subst hjk
                    simp only [if_pos (Nat.lt_succ_self _), if_true]
                    exact GG.out
                  · simp only [if_neg hjk]
                    have := KZ.out j hj
                    by_cases hlt3 : j < k
                    · rw [if_pos hlt3] at this; rw [if_pos (by omega)]; exact this
                    · rw [if_neg hlt3] at this; rw [if_neg (by omega)]; exact this
              case measure => simp [intOf]; omega
            · obtain rfl : k = 4 := by omega
              have K0 := Lib.hid h0
              have K1 := Lib.hid h1
              have KZ := Lib.hid hz'
              clear h0 h1 hz'
              go_wp2_with fail
              go_roundw
              case rel =>
                refine ⟨t + 1, z', by omega, by go_num, K0.out, K1.out, fun j hj => ?_, hb⟩
                have := KZ.out j hj
                rwa [if_pos hj] at this
              case measure => simp [intOf]; omega
        · obtain rfl : t = l.length := by omega
          have G0 := G0.out
          have G1 := G1.out
          have st := rstZ wr w.heap.size (zv z) (by rw [G0]; rfl) rfl (zv_all z)
          go_wp2_with fail
          exact retZ w.heap.size (zv z) rfl rfl rfl (row?_setRow_eq G0) (zv_size _) ⟨z, rfl, HZ.out, below_setRow hb (by omega) _⟩
set_option maxHeartbeats 1000000 in
theorem sums_bad (l : List Int) (hl : l.length ≤ 1048576) (ho : ¬ okN l) (v : Value) (w : World) (hv : Si w v l) :
    Calls Try.prog 9 #[v] w fun e w' => ∃ z, e = .returned (.agg (zv z)) ∧ FlZ z (fun _ => 0) ∧ Below w.heap.size w w' := by
  obtain ⟨ao, cap, rfl, hc, hnn, hp⟩ := hv
  have HO := Lib.hid ho
  clear ho
  go_enter Try.func9, Try.ntmps9
  go_wp2_with fail
  go_loopw [15] (fun v wr => ∃ t : Nat, t ≤ l.length ∧ v = .int .i64 t ∧ (∀ j, j < t → -1048576 ≤ ni l j ∧ ni l j ≤ 1048576) ∧ row? wr w.heap.size = some (zv fun _ => (0, 0)) ∧ row? wr (w.heap.size + 1) = some (zv fun _ => (0, 0)) ∧ Below w.heap.size w wr) (fun v _ => l.length - (intOf v).toNat)
  case atStart => exact ⟨0, by omega, rfl, fun j hj => by omega, by simp [go_sem], by simp [go_sem], bl2 _ _ _⟩
  case round =>
    obtain ⟨t, ht, rfl, hr, h0, h1, hb⟩ := hrel
    have HR := Lib.hid hr
    clear hr
    by_cases hlt : t < l.length
    · obtain ⟨g, off, rfl, hcell⟩ := hp (by omega)
      have c1 := below_cell hb (hcell t hlt) (cell_lt (hcell t hlt))
      have HR2 : (-1048576 ≤ ni l t ∧ ni l t ≤ 1048576) → ∀ j, j < t + 1 → -1048576 ≤ ni l j ∧ ni l j ≤ 1048576 := fun h j hj => by
        rcases Nat.lt_or_eq_of_le (Nat.le_of_lt_succ hj) with h2 | h2
        · exact HR.out j h2
        · rw [h2]; exact h
      have HN := Lib.hid HR2
      clear HR2
      generalize ni l t = x at *
      have HC := Lib.hid hcell
      clear hcell
      have st := rstZ wr w.heap.size (zv fun _ => (0, 0)) (by rw [h0]; rfl) rfl (zv_all _)
      have ld := rldZ wr (w.heap.size + 1) (by rw [h1]; rfl)
      rw [h1] at ld
      have G0 := Lib.hid h0
      have G1 := Lib.hid h1
      clear h0 h1
      by_cases hx1 : x < -1048576
      · go_wp2_with fail
        exact retZ w.heap.size (zv _) rfl rfl rfl (row?_setRow_eq G0.out) (zv_size _) ⟨_, rfl, FlZ0, below_setRow hb (by omega) _⟩
      · by_cases hx2 : 1048576 < x
        · go_wp2_with fail
          exact retZ w.heap.size (zv _) rfl rfl rfl (row?_setRow_eq G0.out) (zv_size _) ⟨_, rfl, FlZ0, below_setRow hb (by omega) _⟩
        · go_wp2_with fail
          go_roundw
          case rel => exact ⟨t + 1, by omega, by go_num, HN.out ⟨by omega, by omega⟩, G0.out, G1.out, hb⟩
          case measure => simp [intOf]; omega
    · exact absurd (fun i hi => HR.out i (by omega)) HO.out
open Classical in
/-- the four numbers that the program hears -/
noncomputable def fN (l : List Int) : Nat → Int := if okN l then q4 l l.length else fun _ => 0
theorem fN_ok {l : List Int} (h : okN l) : fN l = q4 l l.length := if_pos h
theorem fN_small (l : List Int) (hl : l.length ≤ 1048576) : small (fN l) := by
  unfold fN
  split
  · rename_i h; exact q4_small h hl (Nat.le_refl _)
  · intro j; simp
theorem sums_all (l : List Int) (hl : l.length ≤ 1048576) (v : Value) (w : World) (hv : Si w v l) :
    Calls Try.prog 9 #[v] w fun e w' => ∃ z, e = .returned (.agg (zv z)) ∧ FlZ z (fN l) ∧ Below w.heap.size w w' := by
  unfold fN
  split
  · rename_i h; exact sums_any l hl h v w hv
  · rename_i h; exact sums_bad l hl h v w hv
end Go.Proofs.Ytenoldpfclmedaa
