/- The walk of the law ToneTurns. -/
import Derived.Test.YtenoldpfclmedaaTonN
namespace Go.Proofs.Ytenoldpfclmedaa
open Go.RowKit Go.Rw Tone
attribute [local go_sem ↓] ldZ stZ alZ ldI stI alI
attribute [local go_sem] rldZ rstZ ralZ rldI rstI ralI setRow_alloc_at setRow_alloc_past setRow_drew run_store_cx
theorem small_of_tight {f : Nat → Int} {m : Nat} (h : tight f m) (hm : m ≤ 120) : small f := fun j => by have := h j; omega
set_option maxRecDepth 20000 in
set_option maxHeartbeats 4000000 in
theorem turnsLaw_any (xs : List Int) (A B : Int) (vx : Value) (w : World) (hx : Si w vx xs) :
    Calls Try.prog 5 #[.int .i64 A, .int .i64 B, vx] w fun e w' => e = .returned (.bool true) ∧ Below w.heap.size w w' := by
  have HX := Lib.hid hx
  obtain ⟨ax, cx, rfl, _, hnn, hp⟩ := hx
  obtain ⟨i0, hi, hz0, hz1, hz2⟩ := info_parts infoI
  by_cases hl1 : 60 < xs.length
  · have hl : (60 : Int) < xs.length := by omega
    go_enter Try.func5, Try.ntmps5
    go_wp2_with fail
    refine (awake_any _).mono ?_
    rintro e w' ⟨rfl, hb⟩
    go_wp2_with fail
    go_ret
    exact ⟨rfl, hb⟩
  have hA := low_lt A 1000 (by omega)
  have hB := low_lt B 1000 (by omega)
  go_enter Try.func5, Try.ntmps5
  go_wp2_with fail
  refine (low_any A 1000 (by omega) (by omega) _).mono ?_
  rintro e w' ⟨rfl, rfl⟩
  have wa : wrap64 ((low A 1000 : Nat) - 500 : Int) = (low A 1000 : Int) - 500 := IntWalk.wrap64_in _ (by omega)
  have wb : wrap64 ((low B 1000 : Nat) - 500 : Int) = (low B 1000 : Int) - 500 := IntWalk.wrap64_in _ (by omega)
  obtain ⟨a, ha⟩ : ∃ a : Int, (low A 1000 : Int) - 500 = a := ⟨_, rfl⟩
  obtain ⟨b, hb⟩ : ∃ b : Int, (low B 1000 : Int) - 500 = b := ⟨_, rfl⟩
  have hab : -500 ≤ a ∧ a ≤ 500 ∧ -500 ≤ b ∧ b ≤ 500 := by omega
  rw [ha] at wa
  rw [hb] at wb
  have HAB := Lib.hid hab
  clear hab hA hB
  go_wp2_with fail
  refine (low_any B 1000 (by omega) (by omega) _).mono ?_
  rintro e w' ⟨rfl, rfl⟩
  go_wp2_with fail
  rw [wb]
  clear ha hb wa wb
  obtain ⟨L, hL⟩ : ∃ L, nl xs xs.length = L := ⟨_, rfl⟩
  have HL := Lib.hid hL
  have hlen : L.length = xs.length := by rw [← hL, nl_len]
  have HLEN := Lib.hid hlen
  clear hlen hL
  go_loopw [7, 8, 9, 10] (fun r s g v wr => ∃ n : Nat, n ≤ xs.length ∧ v = .int .i64 n ∧ s = .int .i64 (re (q4 L n) 0) ∧ g = .int .i64 (re (q4 L n) 2) ∧ wr.ownsRow w.heap.size 3 1 r (nl xs n).length ((nl xs n).map iv) ∧ Below w.heap.size w wr) (fun _ _ _ v _ => xs.length - (intOf v).toNat)
  case atStart => exact ⟨0, by omega, rfl, by simp [re0, q4], by simp [re2, q4], World.ownsRow_nil _ _ _ _, Below.refl _ _⟩
  case round =>
    obtain ⟨n, hn, rfl, rfl, rfl, how, hbw⟩ := hrel
    have HO := Lib.hid how
    clear how
    by_cases hlt : n < xs.length
    · obtain ⟨bx, off, rfl, hcell⟩ := hp (by omega)
      have c1 := below_cell hbw (hcell n hlt) (cell_lt (hcell n hlt))
      have HC := Lib.hid hcell
      clear hcell
      have hni : ni L n = sm (ni xs n) := by rw [← HL.out]; exact nl_ni xs _ n hlt
      have hq : q4 L (n + 1) = bump (q4 L n) (n % 4) (sm (ni xs n)) := by rw [← hni]; rfl
      have hsmall : small (q4 L n) := small_of_tight (by rw [← HL.out]; exact nl_tight xs xs.length n (by omega)) (by omega)
      have b0 := re_lt hsmall (k := 0) (by omega)
      have b2 := re_lt hsmall (k := 2) (by omega)
      have hy := sm_le (ni xs n)
      have hlow := low_lt (ni xs n) 2001 (by omega)
      have r0 : re (q4 L n) 0 + sm (ni xs n) = re (q4 L (n + 1)) 0 := by rw [hq, re_bump _ _ _ _ (by omega)]; simp [cs]
      have r2 : re (q4 L n) 2 + (if n % 2 = 0 then sm (ni xs n) else - sm (ni xs n)) = re (q4 L (n + 1)) 2 := by
        rw [hq, re_bump _ _ _ _ (by omega)]
        rcases (by omega : n % 4 = 0 ∨ n % 4 = 1 ∨ n % 4 = 2 ∨ n % 4 = 3) with h | h | h | h
        · rw [h, if_pos (by omega)]; simp [cs]
        · rw [h, if_neg (by omega)]; simp [cs]
        · rw [h, if_pos (by omega)]; simp [cs]
        · rw [h, if_neg (by omega)]; simp [cs]
      have hnx := nl_next xs n
      have wy : wrap64 ((low (ni xs n) 2001 : Nat) - 1000 : Int) = sm (ni xs n) := IntWalk.wrap64_in _ (by omega)
      have HNX := Lib.hid hnx
      clear hnx hni hq hsmall hlow
      generalize ni xs n = x at *
      generalize hY : sm x = y at *
      have w0 : wrap64 (re (q4 L n) 0 + y) = re (q4 L (n + 1)) 0 := by rw [← r0]; exact IntWalk.wrap64_in _ (by omega)
      have w2p : n % 2 = 0 → wrap64 (re (q4 L n) 2 + y) = re (q4 L (n + 1)) 2 := fun h => by rw [← r2, if_pos h]; exact IntWalk.wrap64_in _ (by omega)
      have w2m : ¬ n % 2 = 0 → wrap64 (re (q4 L n) 2 - y) = re (q4 L (n + 1)) 2 := fun h => by rw [← r2, if_neg h, ← Int.sub_eq_add_neg]; exact IntWalk.wrap64_in _ (by omega)
      have W2P := Lib.hid w2p
      have W2M := Lib.hid w2m
      clear r0 r2 b0 b2 hy w2p w2m
      generalize re (q4 L n) 0 = s0 at *
      generalize re (q4 L n) 2 = s2 at *
      go_wp2_with fail
      refine (low_any x 2001 (by omega) (by omega) _).mono ?_
      rintro e w' ⟨rfl, rfl⟩
      go_wp2_with (at_builtin; refine app_si rfl _ _ 22 rfl w.heap.size 3 i0 Try.underlying22 hi hz0 hz1 hz2 _ (nl xs n) rfl (HO.out.alloc _) _ [y] rfl ?hu ?hlen ?hbase ?_)
      case hu => exact si_alloc _ [y] 1 rfl
      case hlen => rw [nl_len]; simp; omega
      case hbase => have := hbw.size; simp; omega
      intro v' w2 hown2 hgrow2
      have hown3 : w2.ownsRow w.heap.size 3 1 v' (nl xs (n + 1)).length ((nl xs (n + 1)).map iv) := by rw [← HNX.out]; simpa using hown2
      have hb2 : Below w.heap.size w w2 := (hbw.alloc hbw.size _).grown hgrow2 (by have := hbw.size; simp; omega) (fun k hk => (HO.out.lt k hk).1)
      have HO3 := Lib.hid hown3
      clear hown2 hown3 hgrow2
      by_cases hpar : n % 2 = 0
      · have w2' := W2P.out hpar
        have hpi : (n : Int) % 2 = 0 := by omega
        go_wp2_with fail
        go_roundw
        case rel => exact ⟨n + 1, by omega, by go_num, by first | rfl | exact congrArg (Value.int .i64) w0, by first | rfl | exact congrArg (Value.int .i64) w2', HO3.out, hb2⟩
        case measure => simp [intOf]; omega
      · have w2' := W2M.out hpar
        have hpi : (n : Int) % 2 = 1 := by omega
        go_wp2_with fail
        go_roundw
        case rel => exact ⟨n + 1, by omega, by go_num, by first | rfl | exact congrArg (Value.int .i64) w0, by first | rfl | exact congrArg (Value.int .i64) w2', HO3.out, hb2⟩
        case measure => simp [intOf]; omega
    · obtain rfl : n = xs.length := by omega
      have hsum := sums_any L (by rw [HLEN.out]; omega) (by rw [← HL.out]; exact nl_ok _ _) _ _ (by rw [← HL.out]; exact Own.si HO.out)
      have HSU := Lib.hid hsum
      clear hsum
      go_wp2_with fail
      refine HSU.out.mono ?_
      rintro e w2 ⟨z, rfl, hz, hb2⟩
      have HZ := Lib.hid hz
      have W3 := Lib.hid (row?_alloc_at w2 (zv z) 25 w2.heap.size rfl)
      have hb3 : Below w.heap.size w (w2.alloc (.cells (zv z) 25)) := (hbw.trans (hb2.mono hbw.size)).alloc (hbw.trans (hb2.mono hbw.size)).size _
      have HB3 := Lib.hid hb3
      have hre0 : (re (q4 L L.length) 0).natAbs ≤ 4398046511104 := re_lt (small_of_tight (by rw [← HL.out, nl_len]; exact nl_tight xs xs.length xs.length (by omega)) (by omega)) (by omega)
      have hre2 : (re (q4 L L.length) 2).natAbs ≤ 4398046511104 := re_lt (small_of_tight (by rw [← HL.out, nl_len]; exact nl_tight xs xs.length xs.length (by omega)) (by omega)) (by omega)
      rw [HLEN.out] at hre0 hre2
      have Z0 := hz 0 (by omega)
      have Z1 := hz 1 (by omega)
      have Z2 := hz 2 (by omega)
      have Z3 := hz 3 (by omega)
      rw [HLEN.out] at Z0 Z1 Z2 Z3
      rw [im0] at Z0
      rw [im2] at Z2
      rw [re3, ← re1, im3] at Z3
      rw [im1] at Z1
      have k0 := (row?_cell W3.out 0).trans (zv_get z 0 (by omega))
      have k1 := (row?_cell W3.out 1).trans (zv_get z 1 (by omega))
      have k2 := (row?_cell W3.out 2).trans (zv_get z 2 (by omega))
      have k3 := (row?_cell W3.out 3).trans (zv_get z 3 (by omega))
      have o1 := order_eq Z0.1 (flBig _ hre0)
      have o2 := order_eq Z0.2 fl0
      have o3 := order_eq Z2.1 (flBig _ hre2)
      have o4 := order_eq Z2.2 fl0
      have o5 := order_eq Z1.1 Z3.1
      have Z3n := neg_Fl Z3.2
      rw [show -(q4 L xs.length 1 - q4 L xs.length 3) = q4 L xs.length 3 - q4 L xs.length 1 by omega] at Z3n
      have o6 := order_eq Z1.2 Z3n
      clear hz hb2 hb3 hre0 hre2 Z0 Z1 Z2 Z3 Z3n
      have hneg : ∀ (x : Nat) (W : World), (Op.unary .neg (.float .f64 x)).run Try.prog W = .ok (.float .f64 (Op.negFloat .f64 x)) W := fun _ _ => rfl
      go_wp2_with fail
      refine (turn_any a _).mono ?_
      rintro e w3 ⟨a1, a2, rfl, ha1, ha2, rfl⟩
      have HA1 := Lib.hid ha1
      have HA2 := Lib.hid ha2
      clear ha1 ha2
      go_wp2_with fail
      refine (turn_any b _).mono ?_
      rintro e w3 ⟨b1, b2, rfl, hb1, hb2, rfl⟩
      obtain ⟨u, v, em, fu, fv⟩ := prod_Fl HA1.out HA2.out hb1 hb2
      have FU := Lib.hid fu
      have FV := Lib.hid fv
      have hm := fun W => run_complex_mul (P := Try.prog) W 24 _ _ _ _ _ _ em
      have hw1 : wrap64 (a + b) = a + b := IntWalk.wrap64_in _ (by have := HAB.out; omega)
      clear hb1 hb2 em fu fv
      go_wp2_with fail
      refine (turn_any (a + b) _).mono ?_
      rintro e w3 ⟨c1, c2, rfl, hc1, hc2, rfl⟩
      have p1 := order_eq FU.out hc1
      have p2 := order_eq FV.out hc2
      have hw2 : wrap64 (a + 4) = a + 4 := IntWalk.wrap64_in _ (by have := HAB.out; omega)
      clear hc1 hc2
      go_wp2_with fail
      refine (turn_any (a + 4) _).mono ?_
      rw [(turn_four a).1, (turn_four a).2]
      rintro e w3 ⟨d1, d2, rfl, hd1, hd2, rfl⟩
      have HD1 := Lib.hid hd1
      have HD2 := Lib.hid hd2
      clear hd1 hd2
      go_wp2_with fail
      refine (turn_any a _).mono ?_
      rintro e w3 ⟨e1, e2, rfl, he1, he2, rfl⟩
      have p3 := order_eq HD1.out he1
      have p4 := order_eq HD2.out he2
      clear he1 he2
      go_wp2_with fail
      refine (turn_any a _).mono ?_
      rintro e w3 ⟨f1, f2, rfl, hf1, hf2, rfl⟩
      have HF1 := Lib.hid hf1
      have HF2 := Lib.hid hf2
      have hw3 : wrap64 (-a) = -a := IntWalk.wrap64_in _ (by have := HAB.out; omega)
      clear hf1 hf2
      go_wp2_with fail
      refine (turn_any (-a) _).mono ?_
      rintro e w3 ⟨g1, g2, rfl, hg1, hg2, rfl⟩
      obtain ⟨u', v', em', fu', fv'⟩ := prod_Fl HF1.out HF2.out hg1 hg2
      rw [show a + -a = 0 by omega] at fu' fv'
      have p5 := order_eq (x := 1) fu' fl1
      have p6 := order_eq (x := 0) fv' fl0
      have hm' := fun W => run_complex_mul (P := Try.prog) W 24 _ _ _ _ _ _ em'
      clear hg1 hg2 em' fu' fv'
      go_wp2_with fail
      refine (awake_any _).mono ?_
      rintro e w8 ⟨rfl, hb8⟩
      have HB8 := Lib.hid (HB3.out.trans (hb8.mono HB3.out.size))
      clear hb8
      go_wp2_with fail
      go_ret
      exact ⟨rfl, HB8.out⟩
end Go.Proofs.Ytenoldpfclmedaa
