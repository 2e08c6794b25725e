/- VarR; VarR2; HdrR1. -/
import Derived.Test.YtjlpppnpdgenfaaMvbVarW
import Derived.Test.YtjlpppnpdgenfaaMvb3
import Derived.Test.YtjlpppnpdgenfaaMvb15
import Derived.Test.YtjlpppnpdgenfaaMvb4
import Derived.Test.YtjlpppnpdgenfaaMvb2
import Derived.Test.YtjlpppnpdgenfaaMvb5
import Derived.RegionTactic
import Derived.BigRegion
section
namespace Hdr
open Go Go.Rw
theorem vmk_fit : ∀ c : Fin 64, (UInt8.ofNat c.1 &&& 63) = UInt8.ofNat c.1 := by decide
theorem fit_byte {n p : Nat} (hp : 0 < p) (h : n < 64 * p) : UInt8.ofNat (n / p) &&& 63 = UInt8.ofNat (n / p) :=
 vmk_fit ⟨n / p, (Nat.div_lt_iff_lt_mul hp).2 h⟩
theorem ofInt_mod (n : Nat) : UInt8.ofInt ((n : Int) % 256) = UInt8.ofNat n := by
 apply UInt8.toNat_inj.1
 have e : UInt8.ofInt ((n : Int) % 256) = UInt8.ofNat (n % 256) := by
  unfold UInt8.ofInt
  congr 1
  omega
 rw [e]
 simp
theorem ofInt_div (n p : Nat) : UInt8.ofInt ((n : Int) / (p : Int) % 256) = UInt8.ofNat (n / p) := ofInt_mod (n / p)
theorem ofInt_div8 (n p : Nat) : UInt8.ofInt ((n : Int) / (p : Int)) = UInt8.ofNat (n / p) := by
 rw [← ofInt_div]
 unfold UInt8.ofInt
 congr 1
 omega
def mkp (many : Nat) : Nat := if many = 1 then 0 else if many = 2 then 1 else if many = 4 then 2 else 3
end Hdr
namespace Go.Proofs.Ytjlpppnpdgenfaa
open Go.RowKit Go.Rw Hdr
attribute [local go_sem ↓] s1_0 s1_1 s1_2 s1_3 shift_shl8
set_option maxRecDepth 100000 in
set_option maxHeartbeats 1000000 in
theorem rlen_any (n : Nat) (hn : n < 18446744073709551616) (w : World) :
  Calls Try.prog 75 #[.int .u64 (n : Nat)] w fun e w' => e = .returned (.int .i64 (vlen n : Nat)) ∧ w = w' := by
 obtain ⟨v, hv⟩ : ∃ v, vlen n = v := ⟨_, rfl⟩
 rw [hv]
 unfold vlen at hv
 by_cases h1 : n < 64
 ·rw [if_pos h1] at hv
  have c0 : ((decide ((n : Int) < 64)) : Bool) = true := decide_eq_true (by omega)
  subst hv
  clear hn h1
  go_enter Try.func75, Try.ntmps75
  go_wp2_with fail
  go_ret
  exact ⟨rfl, rfl⟩
 rw [if_neg h1] at hv
 by_cases h2 : n < 16384
 ·rw [if_pos h2] at hv
  have c0 : ((decide ((n : Int) < 64)) : Bool) = false := decide_eq_false (by omega)
  have c1 : ((decide ((n : Int) < 16384)) : Bool) = true := decide_eq_true (by omega)
  subst hv
  clear hn h1 h2
  go_enter Try.func75, Try.ntmps75
  go_wp2_with fail
  go_ret
  exact ⟨rfl, rfl⟩
 rw [if_neg h2] at hv
 by_cases h3 : n < 1073741824
 ·rw [if_pos h3] at hv
  have c0 : ((decide ((n : Int) < 64)) : Bool) = false := decide_eq_false (by omega)
  have c1 : ((decide ((n : Int) < 16384)) : Bool) = false := decide_eq_false (by omega)
  have c2 : ((decide ((n : Int) < 1073741824)) : Bool) = true := decide_eq_true (by omega)
  subst hv
  clear hn h1 h2 h3
  go_enter Try.func75, Try.ntmps75
  go_wp2_with fail
  go_ret
  exact ⟨rfl, rfl⟩
 rw [if_neg h3] at hv
 by_cases h4 : n < 4611686018427387904
 ·rw [if_pos h4] at hv
  have c0 : ((decide ((n : Int) < 64)) : Bool) = false := decide_eq_false (by omega)
  have c1 : ((decide ((n : Int) < 16384)) : Bool) = false := decide_eq_false (by omega)
  have c2 : ((decide ((n : Int) < 1073741824)) : Bool) = false := decide_eq_false (by omega)
  have c3 : ((decide ((n : Int) ≤ 4611686018427387903)) : Bool) = true := decide_eq_true (by omega)
  subst hv
  clear hn h1 h2 h3 h4
  go_enter Try.func75, Try.ntmps75
  go_wp2_with fail
  go_ret
  exact ⟨rfl, rfl⟩
 rw [if_neg h4] at hv
 have c0 : ((decide ((n : Int) < 64)) : Bool) = false := decide_eq_false (by omega)
 have c1 : ((decide ((n : Int) < 16384)) : Bool) = false := decide_eq_false (by omega)
 have c2 : ((decide ((n : Int) < 1073741824)) : Bool) = false := decide_eq_false (by omega)
 have c3 : ((decide ((n : Int) ≤ 4611686018427387903)) : Bool) = false := decide_eq_false (by omega)
 subst hv
 clear hn h1 h2 h3 h4
 go_enter Try.func75, Try.ntmps75
 go_wp2_with fail
 go_ret
 exact ⟨rfl, rfl⟩
attribute [local go_sem ↓] s1_0 s1_1 s1_2 s1_3 shift_shl8 shift_shr8 shift_shl64 shift_shr64
set_option maxRecDepth 100000 in
set_option maxHeartbeats 1000000 in
theorem rin_1 (l : List UInt8) (n : Nat) (hl : l.length ≤ 1000000) (_hn : n < 18446744073709551616) (hfit : n < 64 * 256 ^ 0) (v : Value) (w : World) (hs : Sl w v l) :
  Calls Try.prog 53 #[v, .int .u64 (n : Nat), .int .i64 1] w fun e w' => ∃ v', e = .returned v' ∧ w'.ownsRow w.heap.size 5 1 v' (l ++ vin n 1).length ((l ++ vin n 1).map bv) ∧ Below w.heap.size w w' := by
 obtain ⟨i0, hi, hz0, hz1, hz2⟩ := info_parts info8
 have hbl := vin_length n 1
 have hstep := vin_take_succ n 1
 have hvk : vmk 1 = 0 := by decide
 rw [hvk] at hstep
 have hfb := fit_byte (Nat.pow_pos (n := 0) (by decide : 0 < 256)) hfit
 generalize hBE : vin n 1 = Z at hbl hstep ⊢
 have HST := Lib.hid hstep
 have HBL := Lib.hid hbl
 have HFB := Lib.hid hfb
 clear hstep hBE hbl hfb hvk hfit
 obtain ⟨ao, cap, rfl, -, -, -⟩ := id hs
 go_enter Try.func53, Try.ntmps53
 have HS := Lib.hid hs
 clear hs
 go_wp2_with (at_builtin; refine app_sl rfl _ _ 27 rfl w.heap.size 5 i0 Try.underlying27 hi hz0 hz1 hz2 (.slice none 0 0) [] rfl (World.ownsRow_nil _ _ _ _) (.slice ao l.length cap) l rfl HS.out (by simp; omega) (Nat.le_refl _) ?_)
 intro v0 w1 hown hgrow
 have b1 : Below w.heap.size w w1 := (Below.refl _ _).grown hgrow (Nat.le_refl _) (by intro k hk; cases hk)
 have HO0 := Lib.hid hown
 clear hown hgrow
 go_wp2_with fail
 go_loopw [7, 8, 9, 10] (fun vb v8 v9 v10 wr => ∃ k : Nat, ∃ i : Int, k ≤ 1 ∧ i + 1 + k = 1 ∧ v8 = .int .i64 i ∧ wr.ownsRow w.heap.size 5 1 vb (l.length + k) ((l ++ Z.take k).map bv) ∧ Below w.heap.size w wr) (fun _ v _ _ _ => (intOf v + 1).toNat)
 case atStart => exact ⟨0, 0, by omega, by omega, rfl, by simpa using HO0.out, b1⟩
 case round =>
  obtain ⟨k, i, hk, hik, rfl, how, hb⟩ := hrel
  have HO := Lib.hid how
  clear how
  by_cases hlt : k < 1
  ·obtain ⟨q, rfl⟩ : ∃ q : Nat, i = q := ⟨i.toNat, by omega⟩
   have hqe : 1 - 1 - k = q := by omega
   have hv := shr_byte n q
   have hst := HST.out k hlt
   rw [hqe] at hst
   have hge : (0 : Int) ≤ (q : Int) := by omega
   by_cases hk0 : k = 0
   ·subst hk0
    obtain rfl : q = 0 := by omega
    rw [if_pos rfl] at hst
    have hfb := HFB.out
    obtain ⟨c, hc⟩ : ∃ c, UInt8.ofNat (n / 256 ^ 0) = c := ⟨_, rfl⟩
    rw [hc] at hv hst hfb
    have HV := Lib.hid hv
    have HC := Lib.hid hc
    have HS' := Lib.hid hst
    have HF' := Lib.hid hfb
    clear hst hfb hc
    go_wp2_with fail
    go_loopw [10] (fun v10 w' => ∃ m : Nat, m ≤ 0 ∧ v10 = .int .i64 m ∧ w' = wr) (fun v _ => 0 - (intOf v).toNat)
    case atStart => exact ⟨0, by omega, by simp, by simp⟩
    case round =>
     obtain ⟨m, hm, rfl, rfl⟩ := hrel
     have hmm : m = 0 := by omega
     rcases hmm with rfl
     ·go_wp2_with (at_builtin; refine Classical.byContradiction ?_)
      intro hh; apply hh; clear hh
      have hby : UInt8.ofInt ((n : Int) % 256) = c := by rw [← HC.out, Nat.pow_zero, Nat.div_one]; exact ofInt_mod n
      rw [hby, HF'.out]
      refine app_sl rfl _ _ 27 rfl w.heap.size 5 i0 Try.underlying27 hi hz0 hz1 hz2 u7 (l ++ Z.take 0) rfl (by have := HO.out.alloc (.cells #[.int .u8 (n8 (c) : Nat)] 5); have e := HBL.out; simpa [List.length_take, e, Nat.min_eq_left (Nat.le_of_lt hlt)] using this) _ [c] rfl (Rg.lit_sl _ _ _) (by have e := HBL.out; simp; omega) (by have := hb.size; simp; omega) ?_
      intro v' w2 hown2 hgrow2
      have kb : Below w.heap.size w w2 := (hb.alloc (by have := hb.size; omega) _).grown hgrow2 (by have := hb.size; simp; omega) (fun q hq => (HO.out.lt q hq).1)
      have HO2 := Lib.hid hown2
      clear hown2 hgrow2
      go_wp2_with fail
      go_roundw
      case rel =>
       refine ⟨0 + 1, (0 : Int) - 1, by omega, by omega, by first | rfl | go_num, ?_, kb⟩
       have := HO2.out
       have e := HBL.out
       rw [HS'.out]
       simpa [List.length_take, e, Nat.min_eq_left (Nat.le_of_lt hlt), Nat.add_assoc] using this
      case measure => simp [intOf]; try omega
   ·have hkb : ((q : Int) == 0) = false := by simp; omega
    rw [if_neg hk0] at hst
    generalize UInt8.ofNat (n / 256 ^ q) = c at hv hst
    have HV := Lib.hid hv
    have HS' := Lib.hid hst
    have HK0 := Lib.hid hk0
    clear hst hk0
    go_wp2_with (at_builtin; refine Classical.byContradiction ?_)
    intro hh; apply hh; clear hh
    refine app_sl rfl _ _ 27 rfl w.heap.size 5 i0 Try.underlying27 hi hz0 hz1 hz2 u7 (l ++ Z.take k) rfl (by have := HO.out.alloc (.cells #[.int .u8 (n8 (c) : Nat)] 5); have e := HBL.out; simpa [List.length_take, e, Nat.min_eq_left (Nat.le_of_lt hlt)] using this) _ [c] rfl (Rg.lit_sl _ _ _) (by have e := HBL.out; simp [e]; omega) (by have := hb.size; simp; omega) ?_
    intro v' w2 hown2 hgrow2
    have kb : Below w.heap.size w w2 := (hb.alloc (by have := hb.size; omega) _).grown hgrow2 (by have := hb.size; simp; omega) (fun q hq => (HO.out.lt q hq).1)
    have HO2 := Lib.hid hown2
    clear hown2 hgrow2
    go_wp2_with fail
    go_roundw
    case rel =>
     refine ⟨k + 1, (q : Int) - 1, by omega, by omega, by first | rfl | go_num, ?_, kb⟩
     have := HO2.out
     have e := HBL.out
     rw [HS'.out]
     simpa [List.length_take, e, Nat.min_eq_left (Nat.le_of_lt hlt), Nat.add_assoc] using this
    case measure => simp [intOf]; try omega
  ·obtain rfl : k = 1 := by omega
   obtain rfl : i = -1 := by omega
   have hz : Z.take 1 = Z := List.take_of_length_le (by have := HBL.out; omega)
   go_wp2_with fail
   go_ret
   refine ⟨_, rfl, ?_, hb⟩
   have := HO.out
   rw [hz] at this
   rw [List.length_append, HBL.out]
   exact this
set_option maxRecDepth 100000 in
set_option maxHeartbeats 1000000 in
theorem rin_2 (l : List UInt8) (n : Nat) (hl : l.length ≤ 1000000) (_hn : n < 18446744073709551616) (hfit : n < 64 * 256 ^ 1) (v : Value) (w : World) (hs : Sl w v l) :
  Calls Try.prog 53 #[v, .int .u64 (n : Nat), .int .i64 2] w fun e w' => ∃ v', e = .returned v' ∧ w'.ownsRow w.heap.size 5 1 v' (l ++ vin n 2).length ((l ++ vin n 2).map bv) ∧ Below w.heap.size w w' := by
 obtain ⟨i0, hi, hz0, hz1, hz2⟩ := info_parts info8
 have hbl := vin_length n 2
 have hstep := vin_take_succ n 2
 have hvk : vmk 2 = 64 := by decide
 rw [hvk] at hstep
 have hfb := fit_byte (Nat.pow_pos (n := 1) (by decide : 0 < 256)) hfit
 generalize hBE : vin n 2 = Z at hbl hstep ⊢
 have HST := Lib.hid hstep
 have HBL := Lib.hid hbl
 have HFB := Lib.hid hfb
 clear hstep hBE hbl hfb hvk hfit
 obtain ⟨ao, cap, rfl, -, -, -⟩ := id hs
 go_enter Try.func53, Try.ntmps53
 have HS := Lib.hid hs
 clear hs
 go_wp2_with (at_builtin; refine app_sl rfl _ _ 27 rfl w.heap.size 5 i0 Try.underlying27 hi hz0 hz1 hz2 (.slice none 0 0) [] rfl (World.ownsRow_nil _ _ _ _) (.slice ao l.length cap) l rfl HS.out (by simp; omega) (Nat.le_refl _) ?_)
 intro v0 w1 hown hgrow
 have b1 : Below w.heap.size w w1 := (Below.refl _ _).grown hgrow (Nat.le_refl _) (by intro k hk; cases hk)
 have HO0 := Lib.hid hown
 clear hown hgrow
 go_wp2_with fail
 go_loopw [7, 8, 9, 10] (fun vb v8 v9 v10 wr => ∃ k : Nat, ∃ i : Int, k ≤ 2 ∧ i + 1 + k = 2 ∧ v8 = .int .i64 i ∧ wr.ownsRow w.heap.size 5 1 vb (l.length + k) ((l ++ Z.take k).map bv) ∧ Below w.heap.size w wr) (fun _ v _ _ _ => (intOf v + 1).toNat)
 case atStart => exact ⟨0, 1, by omega, by omega, rfl, by simpa using HO0.out, b1⟩
 case round =>
  obtain ⟨k, i, hk, hik, rfl, how, hb⟩ := hrel
  have HO := Lib.hid how
  clear how
  by_cases hlt : k < 2
  ·obtain ⟨q, rfl⟩ : ∃ q : Nat, i = q := ⟨i.toNat, by omega⟩
   have hqe : 2 - 1 - k = q := by omega
   have hv := shr_byte n q
   have hst := HST.out k hlt
   rw [hqe] at hst
   have hge : (0 : Int) ≤ (q : Int) := by omega
   by_cases hk0 : k = 0
   ·subst hk0
    obtain rfl : q = 1 := by omega
    rw [if_pos rfl] at hst
    have hfb := HFB.out
    obtain ⟨c, hc⟩ : ∃ c, UInt8.ofNat (n / 256 ^ 1) = c := ⟨_, rfl⟩
    rw [hc] at hv hst hfb
    have HV := Lib.hid hv
    have HC := Lib.hid hc
    have HS' := Lib.hid hst
    have HF' := Lib.hid hfb
    clear hst hfb hc
    go_wp2_with fail
    go_loopw [10] (fun v10 w' => ∃ m : Nat, m ≤ 1 ∧ v10 = .int .i64 m ∧ w' = wr) (fun v _ => 1 - (intOf v).toNat)
    case atStart => exact ⟨0, by omega, by simp, by simp⟩
    case round =>
     obtain ⟨m, hm, rfl, rfl⟩ := hrel
     have hmm : m = 0 ∨ m = 1 := by omega
     rcases hmm with rfl | rfl
     ·go_wp2_with fail
      go_roundw
      case rel => exact ⟨1, by omega, by first | rfl | simp, by first | trivial | simp⟩
      case measure => simp [intOf]
     ·go_wp2_with (at_builtin; refine Classical.byContradiction ?_)
      intro hh; apply hh; clear hh
      have hby : UInt8.ofInt ((n : Int) / 256 % 256) = c := by rw [← HC.out]; exact ofInt_div n (256 ^ 1)
      rw [hby, HF'.out]
      refine app_sl rfl _ _ 27 rfl w.heap.size 5 i0 Try.underlying27 hi hz0 hz1 hz2 u7 (l ++ Z.take 0) rfl (by have := HO.out.alloc (.cells #[.int .u8 (n8 (c ||| 64) : Nat)] 5); have e := HBL.out; simpa [List.length_take, e, Nat.min_eq_left (Nat.le_of_lt hlt)] using this) _ [c ||| 64] rfl (Rg.lit_sl _ _ _) (by have e := HBL.out; simp; omega) (by have := hb.size; simp; omega) ?_
      intro v' w2 hown2 hgrow2
      have kb : Below w.heap.size w w2 := (hb.alloc (by have := hb.size; omega) _).grown hgrow2 (by have := hb.size; simp; omega) (fun q hq => (HO.out.lt q hq).1)
      have HO2 := Lib.hid hown2
      clear hown2 hgrow2
      go_wp2_with fail
      go_roundw
      case rel =>
       refine ⟨0 + 1, (1 : Int) - 1, by omega, by omega, by first | rfl | go_num, ?_, kb⟩
       have := HO2.out
       have e := HBL.out
       rw [HS'.out]
       simpa [List.length_take, e, Nat.min_eq_left (Nat.le_of_lt hlt), Nat.add_assoc] using this
      case measure => simp [intOf]; try omega
   ·have hkb : ((q : Int) == 1) = false := by simp; omega
    rw [if_neg hk0] at hst
    generalize UInt8.ofNat (n / 256 ^ q) = c at hv hst
    have HV := Lib.hid hv
    have HS' := Lib.hid hst
    have HK0 := Lib.hid hk0
    clear hst hk0
    go_wp2_with (at_builtin; refine Classical.byContradiction ?_)
    intro hh; apply hh; clear hh
    refine app_sl rfl _ _ 27 rfl w.heap.size 5 i0 Try.underlying27 hi hz0 hz1 hz2 u7 (l ++ Z.take k) rfl (by have := HO.out.alloc (.cells #[.int .u8 (n8 (c) : Nat)] 5); have e := HBL.out; simpa [List.length_take, e, Nat.min_eq_left (Nat.le_of_lt hlt)] using this) _ [c] rfl (Rg.lit_sl _ _ _) (by have e := HBL.out; simp [e]; omega) (by have := hb.size; simp; omega) ?_
    intro v' w2 hown2 hgrow2
    have kb : Below w.heap.size w w2 := (hb.alloc (by have := hb.size; omega) _).grown hgrow2 (by have := hb.size; simp; omega) (fun q hq => (HO.out.lt q hq).1)
    have HO2 := Lib.hid hown2
    clear hown2 hgrow2
    go_wp2_with fail
    go_roundw
    case rel =>
     refine ⟨k + 1, (q : Int) - 1, by omega, by omega, by first | rfl | go_num, ?_, kb⟩
     have := HO2.out
     have e := HBL.out
     rw [HS'.out]
     simpa [List.length_take, e, Nat.min_eq_left (Nat.le_of_lt hlt), Nat.add_assoc] using this
    case measure => simp [intOf]; try omega
  ·obtain rfl : k = 2 := by omega
   obtain rfl : i = -1 := by omega
   have hz : Z.take 2 = Z := List.take_of_length_le (by have := HBL.out; omega)
   go_wp2_with fail
   go_ret
   refine ⟨_, rfl, ?_, hb⟩
   have := HO.out
   rw [hz] at this
   rw [List.length_append, HBL.out]
   exact this
set_option maxRecDepth 100000 in
set_option maxHeartbeats 1000000 in
theorem rin_4 (l : List UInt8) (n : Nat) (hl : l.length ≤ 1000000) (_hn : n < 18446744073709551616) (hfit : n < 64 * 256 ^ 3) (v : Value) (w : World) (hs : Sl w v l) :
  Calls Try.prog 53 #[v, .int .u64 (n : Nat), .int .i64 4] w fun e w' => ∃ v', e = .returned v' ∧ w'.ownsRow w.heap.size 5 1 v' (l ++ vin n 4).length ((l ++ vin n 4).map bv) ∧ Below w.heap.size w w' := by
 obtain ⟨i0, hi, hz0, hz1, hz2⟩ := info_parts info8
 have hbl := vin_length n 4
 have hstep := vin_take_succ n 4
 have hvk : vmk 4 = 128 := by decide
 rw [hvk] at hstep
 have hfb := fit_byte (Nat.pow_pos (n := 3) (by decide : 0 < 256)) hfit
 generalize hBE : vin n 4 = Z at hbl hstep ⊢
 have HST := Lib.hid hstep
 have HBL := Lib.hid hbl
 have HFB := Lib.hid hfb
 clear hstep hBE hbl hfb hvk hfit
 obtain ⟨ao, cap, rfl, -, -, -⟩ := id hs
 go_enter Try.func53, Try.ntmps53
 have HS := Lib.hid hs
 clear hs
 go_wp2_with (at_builtin; refine app_sl rfl _ _ 27 rfl w.heap.size 5 i0 Try.underlying27 hi hz0 hz1 hz2 (.slice none 0 0) [] rfl (World.ownsRow_nil _ _ _ _) (.slice ao l.length cap) l rfl HS.out (by simp; omega) (Nat.le_refl _) ?_)
 intro v0 w1 hown hgrow
 have b1 : Below w.heap.size w w1 := (Below.refl _ _).grown hgrow (Nat.le_refl _) (by intro k hk; cases hk)
 have HO0 := Lib.hid hown
 clear hown hgrow
 go_wp2_with fail
 go_loopw [7, 8, 9, 10] (fun vb v8 v9 v10 wr => ∃ k : Nat, ∃ i : Int, k ≤ 4 ∧ i + 1 + k = 4 ∧ v8 = .int .i64 i ∧ wr.ownsRow w.heap.size 5 1 vb (l.length + k) ((l ++ Z.take k).map bv) ∧ Below w.heap.size w wr) (fun _ v _ _ _ => (intOf v + 1).toNat)
 case atStart => exact ⟨0, 3, by omega, by omega, rfl, by simpa using HO0.out, b1⟩
 case round =>
  obtain ⟨k, i, hk, hik, rfl, how, hb⟩ := hrel
  have HO := Lib.hid how
  clear how
  by_cases hlt : k < 4
  ·obtain ⟨q, rfl⟩ : ∃ q : Nat, i = q := ⟨i.toNat, by omega⟩
   have hqe : 4 - 1 - k = q := by omega
   have hv := shr_byte n q
   have hst := HST.out k hlt
   rw [hqe] at hst
   have hge : (0 : Int) ≤ (q : Int) := by omega
   by_cases hk0 : k = 0
   ·subst hk0
    obtain rfl : q = 3 := by omega
    rw [if_pos rfl] at hst
    have hfb := HFB.out
    obtain ⟨c, hc⟩ : ∃ c, UInt8.ofNat (n / 256 ^ 3) = c := ⟨_, rfl⟩
    rw [hc] at hv hst hfb
    have HV := Lib.hid hv
    have HC := Lib.hid hc
    have HS' := Lib.hid hst
    have HF' := Lib.hid hfb
    clear hst hfb hc
    go_wp2_with fail
    go_loopw [10] (fun v10 w' => ∃ m : Nat, m ≤ 2 ∧ v10 = .int .i64 m ∧ w' = wr) (fun v _ => 2 - (intOf v).toNat)
    case atStart => exact ⟨0, by omega, by simp, by simp⟩
    case round =>
     obtain ⟨m, hm, rfl, rfl⟩ := hrel
     have hmm : m = 0 ∨ m = 1 ∨ m = 2 := by omega
     rcases hmm with rfl | rfl | rfl
     ·go_wp2_with fail
      go_roundw
      case rel => exact ⟨1, by omega, by first | rfl | simp, by first | trivial | simp⟩
      case measure => simp [intOf]
     ·go_wp2_with fail
      go_roundw
      case rel => exact ⟨2, by omega, by first | rfl | simp, by first | trivial | simp⟩
      case measure => simp [intOf]
     ·go_wp2_with (at_builtin; refine Classical.byContradiction ?_)
      intro hh; apply hh; clear hh
      have hby : UInt8.ofInt ((n : Int) / 16777216 % 256) = c := by rw [← HC.out]; exact ofInt_div n (256 ^ 3)
      rw [hby, HF'.out]
      refine app_sl rfl _ _ 27 rfl w.heap.size 5 i0 Try.underlying27 hi hz0 hz1 hz2 u7 (l ++ Z.take 0) rfl (by have := HO.out.alloc (.cells #[.int .u8 (n8 (c ||| 128) : Nat)] 5); have e := HBL.out; simpa [List.length_take, e, Nat.min_eq_left (Nat.le_of_lt hlt)] using this) _ [c ||| 128] rfl (Rg.lit_sl _ _ _) (by have e := HBL.out; simp; omega) (by have := hb.size; simp; omega) ?_
      intro v' w2 hown2 hgrow2
      have kb : Below w.heap.size w w2 := (hb.alloc (by have := hb.size; omega) _).grown hgrow2 (by have := hb.size; simp; omega) (fun q hq => (HO.out.lt q hq).1)
      have HO2 := Lib.hid hown2
      clear hown2 hgrow2
      go_wp2_with fail
      go_roundw
      case rel =>
       refine ⟨0 + 1, (3 : Int) - 1, by omega, by omega, by first | rfl | go_num, ?_, kb⟩
       have := HO2.out
       have e := HBL.out
       rw [HS'.out]
       simpa [List.length_take, e, Nat.min_eq_left (Nat.le_of_lt hlt), Nat.add_assoc] using this
      case measure => simp [intOf]; try omega
   ·have hkb : ((q : Int) == 3) = false := by simp; omega
    rw [if_neg hk0] at hst
    generalize UInt8.ofNat (n / 256 ^ q) = c at hv hst
    have HV := Lib.hid hv
    have HS' := Lib.hid hst
    have HK0 := Lib.hid hk0
    clear hst hk0
    go_wp2_with (at_builtin; refine Classical.byContradiction ?_)
    intro hh; apply hh; clear hh
    refine app_sl rfl _ _ 27 rfl w.heap.size 5 i0 Try.underlying27 hi hz0 hz1 hz2 u7 (l ++ Z.take k) rfl (by have := HO.out.alloc (.cells #[.int .u8 (n8 (c) : Nat)] 5); have e := HBL.out; simpa [List.length_take, e, Nat.min_eq_left (Nat.le_of_lt hlt)] using this) _ [c] rfl (Rg.lit_sl _ _ _) (by have e := HBL.out; simp [e]; omega) (by have := hb.size; simp; omega) ?_
    intro v' w2 hown2 hgrow2
    have kb : Below w.heap.size w w2 := (hb.alloc (by have := hb.size; omega) _).grown hgrow2 (by have := hb.size; simp; omega) (fun q hq => (HO.out.lt q hq).1)
    have HO2 := Lib.hid hown2
    clear hown2 hgrow2
    go_wp2_with fail
    go_roundw
    case rel =>
     refine ⟨k + 1, (q : Int) - 1, by omega, by omega, by first | rfl | go_num, ?_, kb⟩
     have := HO2.out
     have e := HBL.out
     rw [HS'.out]
     simpa [List.length_take, e, Nat.min_eq_left (Nat.le_of_lt hlt), Nat.add_assoc] using this
    case measure => simp [intOf]; try omega
  ·obtain rfl : k = 4 := by omega
   obtain rfl : i = -1 := by omega
   have hz : Z.take 4 = Z := List.take_of_length_le (by have := HBL.out; omega)
   go_wp2_with fail
   go_ret
   refine ⟨_, rfl, ?_, hb⟩
   have := HO.out
   rw [hz] at this
   rw [List.length_append, HBL.out]
   exact this
set_option maxRecDepth 100000 in
set_option maxHeartbeats 1000000 in
theorem rin_8 (l : List UInt8) (n : Nat) (hl : l.length ≤ 1000000) (hn : n < 18446744073709551616) (hfit : n < 64 * 256 ^ 7) (v : Value) (w : World) (hs : Sl w v l) :
  Calls Try.prog 53 #[v, .int .u64 (n : Nat), .int .i64 8] w fun e w' => ∃ v', e = .returned v' ∧ w'.ownsRow w.heap.size 5 1 v' (l ++ vin n 8).length ((l ++ vin n 8).map bv) ∧ Below w.heap.size w w' := by
 obtain ⟨i0, hi, hz0, hz1, hz2⟩ := info_parts info8
 have hbl := vin_length n 8
 have hstep := vin_take_succ n 8
 have hvk : vmk 8 = 192 := by decide
 rw [hvk] at hstep
 have hfb := fit_byte (Nat.pow_pos (n := 7) (by decide : 0 < 256)) hfit
 generalize hBE : vin n 8 = Z at hbl hstep ⊢
 have HST := Lib.hid hstep
 have HBL := Lib.hid hbl
 have HFB := Lib.hid hfb
 clear hstep hBE hbl hfb hvk hfit
 obtain ⟨ao, cap, rfl, -, -, -⟩ := id hs
 go_enter Try.func53, Try.ntmps53
 have HS := Lib.hid hs
 clear hs
 go_wp2_with (at_builtin; refine app_sl rfl _ _ 27 rfl w.heap.size 5 i0 Try.underlying27 hi hz0 hz1 hz2 (.slice none 0 0) [] rfl (World.ownsRow_nil _ _ _ _) (.slice ao l.length cap) l rfl HS.out (by simp; omega) (Nat.le_refl _) ?_)
 intro v0 w1 hown hgrow
 have b1 : Below w.heap.size w w1 := (Below.refl _ _).grown hgrow (Nat.le_refl _) (by intro k hk; cases hk)
 have HO0 := Lib.hid hown
 clear hown hgrow
 go_wp2_with fail
 go_loopw [7, 8, 9, 10] (fun vb v8 v9 v10 wr => ∃ k : Nat, ∃ i : Int, k ≤ 8 ∧ i + 1 + k = 8 ∧ v8 = .int .i64 i ∧ wr.ownsRow w.heap.size 5 1 vb (l.length + k) ((l ++ Z.take k).map bv) ∧ Below w.heap.size w wr) (fun _ v _ _ _ => (intOf v + 1).toNat)
 case atStart => exact ⟨0, 7, by omega, by omega, rfl, by simpa using HO0.out, b1⟩
 case round =>
  obtain ⟨k, i, hk, hik, rfl, how, hb⟩ := hrel
  have HO := Lib.hid how
  clear how
  by_cases hlt : k < 8
  ·obtain ⟨q, rfl⟩ : ∃ q : Nat, i = q := ⟨i.toNat, by omega⟩
   have hqe : 8 - 1 - k = q := by omega
   have hv := shr_byte n q
   have hst := HST.out k hlt
   rw [hqe] at hst
   have hge : (0 : Int) ≤ (q : Int) := by omega
   by_cases hk0 : k = 0
   ·subst hk0
    obtain rfl : q = 7 := by omega
    rw [if_pos rfl] at hst
    have hfb := HFB.out
    obtain ⟨c, hc⟩ : ∃ c, UInt8.ofNat (n / 256 ^ 7) = c := ⟨_, rfl⟩
    rw [hc] at hv hst hfb
    have HV := Lib.hid hv
    have HC := Lib.hid hc
    have HS' := Lib.hid hst
    have HF' := Lib.hid hfb
    clear hst hfb hc
    go_wp2_with fail
    go_loopw [10] (fun v10 w' => ∃ m : Nat, m ≤ 3 ∧ v10 = .int .i64 m ∧ w' = wr) (fun v _ => 3 - (intOf v).toNat)
    case atStart => exact ⟨0, by omega, by simp, by simp⟩
    case round =>
     obtain ⟨m, hm, rfl, rfl⟩ := hrel
     have hmm : m = 0 ∨ m = 1 ∨ m = 2 ∨ m = 3 := by omega
     rcases hmm with rfl | rfl | rfl | rfl
     ·go_wp2_with fail
      go_roundw
      case rel => exact ⟨1, by omega, by first | rfl | simp, by first | trivial | simp⟩
      case measure => simp [intOf]
     ·go_wp2_with fail
      go_roundw
      case rel => exact ⟨2, by omega, by first | rfl | simp, by first | trivial | simp⟩
      case measure => simp [intOf]
     ·go_wp2_with fail
      go_roundw
      case rel => exact ⟨3, by omega, by first | rfl | simp, by first | trivial | simp⟩
      case measure => simp [intOf]
     ·go_wp2_with (at_builtin; refine Classical.byContradiction ?_)
      intro hh; apply hh; clear hh
      have hby : UInt8.ofInt ((n : Int) / 72057594037927936) = c := by rw [← HC.out]; exact ofInt_div8 n (256 ^ 7)
      rw [hby, HF'.out]
      refine app_sl rfl _ _ 27 rfl w.heap.size 5 i0 Try.underlying27 hi hz0 hz1 hz2 u7 (l ++ Z.take 0) rfl (by have := HO.out.alloc (.cells #[.int .u8 (n8 (c ||| 192) : Nat)] 5); have e := HBL.out; simpa [List.length_take, e, Nat.min_eq_left (Nat.le_of_lt hlt)] using this) _ [c ||| 192] rfl (Rg.lit_sl _ _ _) (by have e := HBL.out; simp; omega) (by have := hb.size; simp; omega) ?_
      intro v' w2 hown2 hgrow2
      have kb : Below w.heap.size w w2 := (hb.alloc (by have := hb.size; omega) _).grown hgrow2 (by have := hb.size; simp; omega) (fun q hq => (HO.out.lt q hq).1)
      have HO2 := Lib.hid hown2
      clear hown2 hgrow2
      go_wp2_with fail
      go_roundw
      case rel =>
       refine ⟨0 + 1, (7 : Int) - 1, by omega, by omega, by first | rfl | go_num, ?_, kb⟩
       have := HO2.out
       have e := HBL.out
       rw [HS'.out]
       simpa [List.length_take, e, Nat.min_eq_left (Nat.le_of_lt hlt), Nat.add_assoc] using this
      case measure => simp [intOf]; try omega
   ·have hkb : ((q : Int) == 7) = false := by simp; omega
    rw [if_neg hk0] at hst
    generalize UInt8.ofNat (n / 256 ^ q) = c at hv hst
    have HV := Lib.hid hv
    have HS' := Lib.hid hst
    have HK0 := Lib.hid hk0
    clear hst hk0
    go_wp2_with (at_builtin; refine Classical.byContradiction ?_)
    intro hh; apply hh; clear hh
    refine app_sl rfl _ _ 27 rfl w.heap.size 5 i0 Try.underlying27 hi hz0 hz1 hz2 u7 (l ++ Z.take k) rfl (by have := HO.out.alloc (.cells #[.int .u8 (n8 (c) : Nat)] 5); have e := HBL.out; simpa [List.length_take, e, Nat.min_eq_left (Nat.le_of_lt hlt)] using this) _ [c] rfl (Rg.lit_sl _ _ _) (by have e := HBL.out; simp [e]; omega) (by have := hb.size; simp; omega) ?_
    intro v' w2 hown2 hgrow2
    have kb : Below w.heap.size w w2 := (hb.alloc (by have := hb.size; omega) _).grown hgrow2 (by have := hb.size; simp; omega) (fun q hq => (HO.out.lt q hq).1)
    have HO2 := Lib.hid hown2
    clear hown2 hgrow2
    go_wp2_with fail
    go_roundw
    case rel =>
     refine ⟨k + 1, (q : Int) - 1, by omega, by omega, by first | rfl | go_num, ?_, kb⟩
     have := HO2.out
     have e := HBL.out
     rw [HS'.out]
     simpa [List.length_take, e, Nat.min_eq_left (Nat.le_of_lt hlt), Nat.add_assoc] using this
    case measure => simp [intOf]; try omega
  ·obtain rfl : k = 8 := by omega
   obtain rfl : i = -1 := by omega
   have hz : Z.take 8 = Z := List.take_of_length_le (by have := HBL.out; omega)
   go_wp2_with fail
   go_ret
   refine ⟨_, rfl, ?_, hb⟩
   have := HO.out
   rw [hz] at this
   rw [List.length_append, HBL.out]
   exact this
end Go.Proofs.Ytjlpppnpdgenfaa

end
section
namespace Hdr
open Go Go.Rw
theorem vlen_fit {n : Nat} (h : n < 4611686018427387904) : (vlen n = 1 ∨ vlen n = 2 ∨ vlen n = 4 ∨ vlen n = 8) ∧ n < 64 * 256 ^ (vlen n - 1) := by
 unfold vlen
 repeat' split
 all_goals first | omega | (refine ⟨by omega, ?_⟩; simp only [Nat.reduceSub, Nat.reducePow, Nat.reduceMul]; omega)
end Hdr
namespace Go.Proofs.Ytjlpppnpdgenfaa
open Go.RowKit Go.Rw Hdr
theorem rin_any (many : Nat) (hm : many = 1 ∨ many = 2 ∨ many = 4 ∨ many = 8) (l : List UInt8) (n : Nat) (hl : l.length ≤ 1000000) (hn : n < 18446744073709551616) (hfit : n < 64 * 256 ^ (many - 1)) (v : Value) (w : World) (hs : Sl w v l) :
  Calls Try.prog 53 #[v, .int .u64 (n : Nat), .int .i64 (many : Nat)] w fun e w' => ∃ v', e = .returned v' ∧ w'.ownsRow w.heap.size 5 1 v' (l ++ vin n many).length ((l ++ vin n many).map bv) ∧ Below w.heap.size w w' := by
 rcases hm with rfl | rfl | rfl | rfl
 ·exact rin_1 l n hl hn hfit v w hs
 ·exact rin_2 l n hl hn hfit v w hs
 ·exact rin_4 l n hl hn hfit v w hs
 ·exact rin_8 l n hl hn hfit v w hs
set_option maxRecDepth 100000 in
set_option maxHeartbeats 1000000 in
theorem rput_any (l : List UInt8) (n : Nat) (hl : l.length ≤ 1000000) (hn : n < 4611686018427387904) (v : Value) (w : World) (hs : Sl w v l) :
  Calls Try.prog 52 #[v, .int .u64 (n : Nat)] w fun e w' => ∃ v', e = .returned v' ∧ w'.ownsRow w.heap.size 5 1 v' (l ++ vin n (vlen n)).length ((l ++ vin n (vlen n)).map bv) ∧ Below w.heap.size w w' := by
 have hv := fun W => rlen_any n (by omega) W
 have hp := fun W hs => rin_any (vlen n) (vlen_fit hn).1 l n hl (by omega) (vlen_fit hn).2 v W hs
 generalize vlen n = many at hv hp ⊢
 have HP := Lib.hid hp
 have HS := Lib.hid hs
 have HV := Lib.hid hv
 clear hv hp hs
 go_enter Try.func52, Try.ntmps52
 go_wp2_with fail
 refine (HV.out _).mono ?_
 rintro e w1 ⟨rfl, rfl⟩
 go_wp2_with fail
 refine (HP.out _ HS.out).mono ?_
 rintro e w2 ⟨v', rfl, o2, b2⟩
 have O2 := Lib.hid o2
 clear o2
 go_wp2_with fail
 go_ret
 exact ⟨_, rfl, O2.out, b2⟩
attribute [local go_sem ↓] shift_shl8 shift_shr8 shift_shl64 shift_shr64 shl1_many
set_option maxRecDepth 100000 in
set_option maxHeartbeats 1000000 in
theorem rvget_any (l : List UInt8) (hl : l.length ≤ 1000000) (v : Value) (w : World) (hs : Sl w v l) :
  Calls Try.prog 65 #[v] w fun e w' => e = .returned (.tuple #[.int .u64 ((vget l).1 : Nat), .int .i64 ((vget l).2.1 : Nat), .int .i64 (vget l).2.2]) ∧ w = w' := by
 have hs0 := hs
 obtain ⟨ao, cap, rfl, hc, hnn, hp⟩ := hs0
 clear hnn
 by_cases h0 : l.length = 0
 ·have e : vget l = (0, 0, 3) := by unfold vget; rw [if_pos (.inl h0)]
  rw [e]
  go_enter Try.func65, Try.ntmps65
  go_wp2_with fail
  go_ret3
  exact ⟨rfl, rfl⟩
 obtain ⟨b, off, rfl, hcell⟩ := hp (by omega)
 clear hp
 have c0 : w.cell? ⟨b, off, none⟩ = some (.int .u8 (n8 (nth l 0) : Nat)) := by have := hcell 0 (by omega); simpa using this
 have hmp := vmany_pos (nth l 0)
 have hm8 := vmany_le (nth l 0)
 by_cases hsh : l.length < vmany (nth l 0)
 ·have e : vget l = (0, 0, 3) := by unfold vget; rw [if_pos (.inr hsh)]
  rw [e]
  clear hcell hs
  go_enter Try.func65, Try.ntmps65
  go_wp2_with fail
  go_ret3
  exact ⟨rfl, rfl⟩
 have e : vget l = (vnum l, vmany (nth l 0), 0) := by unfold vget; rw [if_neg (by omega)]
 rw [e]
 unfold vnum
 have hTn : ∀ k, k + 1 < vmany (nth l 0) → nth ((l.take (vmany (nth l 0))).drop 1) k = nth l (k + 1) := by
  intro k hk
  unfold nth
  unfold nth at hk
  rw [List.getElem?_drop, List.getElem?_take, Nat.add_comm 1 k, if_pos hk]
 have hTl : ((l.take (vmany (nth l 0))).drop 1).length = vmany (nth l 0) - 1 := by simp; omega
 generalize (l.take (vmany (nth l 0))).drop 1 = T at hTn hTl ⊢
 obtain ⟨c, hcdef⟩ : ∃ c, c = nth l 0 := ⟨_, rfl⟩
 rw [← hcdef] at c0 hmp hm8 hsh e hTn hTl ⊢
 have hx := and63 c
 have hx64 : n8 (c &&& 63) < 64 := by omega
 rw [← hx]
 show Calls _ _ _ _ fun e w' => e = .returned (.tuple #[.int .u64 ((foldN (n8 (c &&& 63)) T : Nat) : Int), _, _]) ∧ _
 generalize hmany : vmany c = m at *
 clear hs e hcdef
 have HX := Lib.hid hx64
 have HTL := Lib.hid hTl
 have HTN := Lib.hid hTn
 have HCL := Lib.hid hcell
 clear hx hx64 hTl hTn hcell
 go_enter Try.func65, Try.ntmps65
 go_wp2_with fail
 go_loopw [6, 7] (fun va v wr => ∃ k i : Nat, i = k + 1 ∧ i ≤ m ∧ va = .int .u64 (foldN (n8 (c &&& 63)) (T.take k) : Nat) ∧ v = .int .i64 (i : Nat) ∧ w = wr) (fun _ v _ => m - (intOf v).toNat)
 case atStart => exact ⟨0, 1, rfl, hmp, by rw [n64_wide]; rfl, rfl, rfl⟩
 case round =>
  obtain ⟨k, i, hki, hk, rfl, rfl, rfl⟩ := hrel
  by_cases hlt2 : i < m
  ·have hlk : k < T.length := by have := HTL.out; omega
   have c1 := HCL.out i (by omega)
   have hnt := HTN.out k (by omega)
   rw [← hki] at hnt
   rw [← hnt] at c1
   have hxk := foldN_lt (x := n8 (c &&& 63)) (k := k) T HX.out (by have := HTL.out; rw [List.length_take]; omega)
   have hst := num_step (foldN (n8 (c &&& 63)) (T.take k)) (nth T k) hxk
   rw [← foldN_succ _ T k hlk] at hst
   obtain ⟨X, hX⟩ : ∃ X : UInt64, X = UInt64.ofNat (foldN (n8 (c &&& 63)) (T.take k)) := ⟨_, rfl⟩
   have hq : foldN (n8 (c &&& 63)) (T.take k) = n64 X := by rw [hX]; exact (n64_ofNat _ (by omega)).symm
   rw [← hX] at hst
   rw [hq]
   have HS := Lib.hid hst
   have HKI := Lib.hid hki
   clear hq hX hxk hst hnt hki
   go_wp2_with fail
   go_roundw
   case rel => exact ⟨k + 1, i + 1, by have := HKI.out; omega, by omega, by rw [← HS.out], by go_num, by first | rfl | trivial⟩
   case measure => simp [intOf]; omega
  ·obtain rfl : i = m := by omega
   have hk1 : T.length ≤ k := by have := HTL.out; omega
   rw [List.take_of_length_le hk1]
   go_wp2_with fail
   go_ret3
   exact ⟨rfl, rfl⟩
set_option maxRecDepth 100000 in
set_option maxHeartbeats 1000000 in
theorem rnumb_any (l : List UInt8) (hl : l.length ≤ 8) (v : Value) (w : World) (hs : Sl w v l) :
  Calls Try.prog 43 #[v] w fun e w' => e = .returned (.int .u64 (Hdr.num l : Nat)) ∧ w = w' := by
 obtain ⟨ao, cap, rfl, hc, hnn, hp⟩ := id hs
 clear hs hnn
 have HP := Lib.hid hp
 clear hp
 go_enter Try.func43, Try.ntmps43
 go_wp2_with fail
 go_loopw [3, 4] (fun va v wr => ∃ k : Nat, k ≤ l.length ∧ va = .int .u64 (Hdr.num (l.take k) : Nat) ∧ v = .int .i64 (k : Nat) ∧ w = wr) (fun _ v _ => l.length - (intOf v).toNat)
 case atStart => exact ⟨0, by omega, rfl, rfl, rfl⟩
 case round =>
  obtain ⟨k, hk, rfl, rfl, rfl⟩ := hrel
  by_cases hlt2 : k < l.length
  ·obtain ⟨b, off, rfl, hcell⟩ := HP.out (by omega)
   have c1 := hcell k hlt2
   have hxk : Hdr.num (l.take k) < 72057594037927936 := Nat.lt_of_lt_of_le (num_lt (l.take k)) (Nat.le_trans (Nat.pow_le_pow_right (by decide : 0 < 256) (show (l.take k).length ≤ 7 by rw [List.length_take]; omega)) (by decide))
   have hst := num_step (Hdr.num (l.take k)) (nth l k) hxk
   rw [← num_take_succ l k hlt2] at hst
   obtain ⟨X, hX⟩ : ∃ X : UInt64, X = UInt64.ofNat (Hdr.num (l.take k)) := ⟨_, rfl⟩
   have hq : Hdr.num (l.take k) = n64 X := by rw [hX]; exact (n64_ofNat _ (by omega)).symm
   rw [← hX] at hst
   rw [hq]
   have HS := Lib.hid hst
   clear hq hX hxk hst hcell
   go_wp2_with fail
   go_roundw
   case rel => exact ⟨k + 1, by omega, by rw [← HS.out], by go_num, by first | rfl | trivial⟩
   case measure => simp [intOf]; omega
  ·obtain rfl : k = l.length := by omega
   rw [List.take_length]
   go_wp2_with fail
   go_ret
   exact ⟨rfl, rfl⟩
theorem rbit5 (ok : Bool) (w : World) : Calls Try.prog 54 #[.bool ok, .int .i64 5] w fun e w' => e = .returned (.int .u8 (n8 (if ok then 32 else 0) : Nat)) ∧ w = w' := by
 cases ok
 all_goals go_enter Try.func54, Try.ntmps54
 all_goals go_wp2_with fail
 all_goals go_ret
 all_goals exact ⟨rfl, rfl⟩
theorem rbit2 (ok : Bool) (w : World) : Calls Try.prog 54 #[.bool ok, .int .i64 2] w fun e w' => e = .returned (.int .u8 (n8 (if ok then 4 else 0) : Nat)) ∧ w = w' := by
 cases ok
 all_goals go_enter Try.func54, Try.ntmps54
 all_goals go_wp2_with fail
 all_goals go_ret
 all_goals exact ⟨rfl, rfl⟩
theorem rpart_no (l : List UInt8) (hl : l.length ≤ 1000000) (at_ n : Nat) (ha : at_ ≤ 1000000) (hn : n ≤ 1000000) (h : l.length < at_ + n) (v : Value) (w : World) (hs : Sl w v l) :
  Calls Try.prog 64 #[v, .int .i64 (at_ : Nat), .int .i64 (n : Nat)] w fun e w' => e = .returned (.tuple #[.slice none 0 0, .bool false]) ∧ w = w' := by
 obtain ⟨ao, cap, rfl, hc, -, -⟩ := id hs
 have hw : wrap64 ((at_ : Int) + n) = at_ + n := by unfold wrap64; omega
 have hi : ((l.length : Nat) : Int) < at_ + n := by omega
 clear hs hc h ha hn hl
 go_enter Try.func64, Try.ntmps64
 go_wp2_with fail
 go_ret2
 exact ⟨rfl, rfl⟩
theorem rpart_ok (l : List UInt8) (hl : l.length ≤ 1000000) (at_ n : Nat) (ha : at_ ≤ 1000000) (hn : n ≤ 1000000) (h : at_ + n ≤ l.length) (v : Value) (w : World) (hs : Sl w v l) :
  Calls Try.prog 64 #[v, .int .i64 (at_ : Nat), .int .i64 (n : Nat)] w fun e w' => ∃ v', e = .returned (.tuple #[v', .bool true]) ∧ w'.ownsRow w.heap.size 5 1 v' ((l.drop at_).take n).length (((l.drop at_).take n).map bv) ∧ Below w.heap.size w w' := by
 obtain ⟨i0, hi, hz0, hz1, hz2⟩ := info_parts info8
 obtain ⟨ao, cap, rfl, hc, -, -⟩ := id hs
 have hw : wrap64 ((at_ : Int) + n) = at_ + n := by unfold wrap64; omega
 have hi' : ¬ ((l.length : Nat) : Int) < at_ + n := by omega
 have hsc := hs.cut at_ (at_ + n) (by omega) (by omega)
 have e : (l.take (at_ + n)).drop at_ = (l.drop at_).take n := by rw [List.drop_take, Nat.add_sub_cancel_left]
 rw [e, Nat.add_sub_cancel_left] at hsc
 have el : ((l.drop at_).take n).length = n := by simp; omega
 generalize (l.drop at_).take n = T at hsc el ⊢
 have hcut : ∀ W, (Instr.sliceAt 27 (.slice ao l.length cap) (some (.int .i64 (at_ : Nat))) (some (.int .i64 ((at_ : Int) + n))) none).run Try.prog W = .ok (.slice (cutA ao at_ cap) n (cap - at_)) W := fun W => by
  rw [show ((at_ : Int) + n) = ((at_ + n : Nat) : Int) from rfl, cut_lh TB W _ _ _ _ _ _ _ (by omega) (by omega) (by omega), Int.toNat_natCast, Int.toNat_natCast, Nat.add_sub_cancel_left]
 have HSC := Lib.hid hsc
 have HEL := Lib.hid el
 have HH := Lib.hid (And.intro hn hl)
 clear hs hsc e el h hc ha hn hl
 go_enter Try.func64, Try.ntmps64
 go_wp2_with (at_builtin; refine Classical.byContradiction ?_)
 intro hh; apply hh; clear hh
 refine app_sl rfl _ _ 27 rfl w.heap.size 5 i0 Try.underlying27 hi hz0 hz1 hz2 (.slice none 0 0) [] rfl (World.ownsRow_nil _ _ _ _) _ T rfl HSC.out (by have := HEL.out; have := HH.out.1; simp; omega) (Nat.le_refl _) ?_
 intro v' w' o g
 have b1 : Below w.heap.size w w' := (Below.refl _ _).grown g (Nat.le_refl _) (by intro k hk; cases hk)
 have O := Lib.hid o
 clear o g
 go_wp2_with fail
 go_ret2
 exact ⟨_, rfl, by simpa using O.out, b1⟩
end Go.Proofs.Ytjlpppnpdgenfaa

end
section
namespace Hdr
open Go.Rw
def L2 (b : List UInt8) (k ver nl : Nat) (d s : List UInt8) (at2 : Nat) : Except Int (Hd × Nat × Nat) :=
 match lTok b k at2 with
 | .error e => .error e
 | .ok (t, at3) => lTail b ⟨true, (k : Nat), ver, d, s, t, false, false, 0, (nl : Nat)⟩ at3
def L1 (b : List UInt8) (k ver nl : Nat) (d : List UInt8) (at1 : Nat) : Except Int (Hd × Nat × Nat) :=
 match lPart b at1 false with
 | .error e => .error e
 | .ok (s, at2) => L2 b k ver nl d s at2
def L0 (b : List UInt8) (k ver nl : Nat) (at0 : Nat) : Except Int (Hd × Nat × Nat) :=
 match lPart b at0 true with
 | .error e => .error e
 | .ok (d, at1) => L1 b k ver nl d at1
end Hdr
namespace Go.Rw
structure Held (p : Prop) (_x : PLift p → Unit) : Prop where
 mk ::
 out : p
theorem hold_ops (d : Nat) {P : Program} {op : Op} {t : TypeId} {p : String} {af : Array Edge} {g : Option (Nat × Bool)} {l rest : List Oper} {Q : Exit → Act → World → Prop} {a : Act} {w : World}
  (h : Held (wpList P (List.toArray (⟨some d, op, t, p, af, g⟩ :: l)) Q rest a w) (fun _ => ())) : wpList P (List.toArray (⟨some d, op, t, p, af, g⟩ :: l)) Q rest a w := h.out
end Go.Rw
namespace Go.Proofs.Ytjlpppnpdgenfaa
open Go.RowKit Go.Rw Hdr
attribute [local go_sem ↓] hvA_0 hvA_1 hvA_2 hvA_3 hvA_4 hvA_5 hvA_6 hvA_7 hvA_8 hvA_9
attribute [local go_sem ↓] ldH stH alH bdR bdH shift_shl8 shift_shr8
attribute [local go_sem] rldH rstH ralH setRow_alloc_at setRow_alloc_past setRow_drew buildR buildH buildH0
theorem kind_bits (c : UInt8) : n8 (shr8 c 4 &&& 3) = n8 c / 16 % 4 := by
 have h : n8 (shr8 c 4) = n8 c / 16 := n8_shr8 c 4
 unfold n8 at h ⊢
 rw [UInt8.toNat_and, h]
 exact Nat.and_two_pow_sub_one_eq_mod (n := 2) _
theorem num4 {T : List UInt8} (h : T.length = 4) : Hdr.num T = ((n8 (nth T 0) * 256 + n8 (nth T 1)) * 256 + n8 (nth T 2)) * 256 + n8 (nth T 3) := by
 match T, h with
 | [a, b, c, d], _ => simp [Hdr.num, nth]
theorem own_below {w w' : World} {B : Nat} {e : TypeId} {v : Value} {n : Nat} {xs : List Value} (h : Below w.heap.size w w') (ho : w.ownsRow B e 1 v n xs) : w'.ownsRow B e 1 v n xs :=
 own_grown (r := none) ho ⟨h.os, h.tape, h.output, h.size, fun k hk _ => h.block k hk⟩ (fun k hk he => by cases he)
theorem ofInt32_toBitVec (x : Int) : (UInt32.ofInt x).toBitVec = BitVec.ofInt 32 x := by
 apply BitVec.eq_of_toNat_eq
 simp [UInt32.ofInt]
 try omega
theorem wrap32u_toNat (b : UInt32) : IntKind.u32.wrap (b.toBitVec.toNat : Int) = (b.toNat : Int) := by
 have := b.toNat_lt
 simp only [IntKind.wrap, IntKind.signed, IntKind.bits]
 show ((b.toNat : Int)) % _ = _
 simp; try omega
theorem bits_or32 (x y : Int) : bits .or .u32 x y = (((UInt32.ofInt x ||| UInt32.ofInt y).toNat : Nat) : Int) := by
 rw [← wrap32u_toNat]; simp only [bits, UInt32.toBitVec_or, ofInt32_toBitVec]; rfl
theorem or32_nat (x y : Nat) (hx : x < 4294967296) (hy : y < 4294967296) : bits .or .u32 (x : Nat) (y : Nat) = ((x ||| y : Nat) : Int) := by
 rw [bits_or32, UInt32.toNat_or]
 have e : ∀ z : Nat, z < 4294967296 → (UInt32.ofInt (z : Int)).toNat = z := fun z hz => by simp [UInt32.ofInt]; try omega
 rw [e x hx, e y hy]
theorem or_add (p y k : Nat) (h : y < 2 ^ k) : p * 2 ^ k ||| y = p * 2 ^ k + y := by
 rw [Nat.mul_comm p]; exact (Nat.two_pow_add_eq_or_of_lt h p).symm
theorem ver4 (a b c d : UInt8) : bits .or .u32 (bits .or .u32 (bits .or .u32 (((n8 a : Nat) : Int) % 4294967296 * 16777216 % 4294967296) (((n8 b : Nat) : Int) % 4294967296 * 65536 % 4294967296)) (((n8 c : Nat) : Int) % 4294967296 * 256 % 4294967296)) (((n8 d : Nat) : Int) % 4294967296) = ((((n8 a * 256 + n8 b) * 256 + n8 c) * 256 + n8 d : Nat) : Int) := by
 have h1 := n8_lt a
 have h2 := n8_lt b
 have h3 := n8_lt c
 have h4 := n8_lt d
 generalize n8 a = a at *
 generalize n8 b = b at *
 generalize n8 c = c at *
 generalize n8 d = d at *
 rw [show ((a : Int) % 4294967296 * 16777216 % 4294967296) = ((a * 2 ^ 24 : Nat) : Int) by omega, show ((b : Int) % 4294967296 * 65536 % 4294967296) = ((b * 2 ^ 16 : Nat) : Int) by omega, show ((c : Int) % 4294967296 * 256 % 4294967296) = ((c * 2 ^ 8 : Nat) : Int) by omega, show ((d : Int) % 4294967296) = ((d : Nat) : Int) by omega]
 rw [or32_nat _ _ (by omega) (by omega), or_add a (b * 2 ^ 16) 24 (by omega)]
 rw [or32_nat _ _ (by omega) (by omega), show a * 2 ^ 24 + b * 2 ^ 16 = (a * 256 + b) * 2 ^ 16 by omega, or_add _ (c * 2 ^ 8) 16 (by omega)]
 rw [or32_nat _ _ (by omega) (by omega), show (a * 256 + b) * 2 ^ 16 + c * 2 ^ 8 = ((a * 256 + b) * 256 + c) * 2 ^ 8 by omega, or_add _ d 8 (by omega)]
def LeadPost (w : World) (q : Except Int (Hd × Nat × Nat)) (e : Ending) (w' : World) : Prop :=
 match q with
 | .error x => ∃ lg kind ver a1 n1 c1 a2 n2 c2 a3 n3 c3 sp ph num nl, e = .returned (.tuple #[.agg (hvA lg kind ver (.slice a1 n1 c1) (.slice a2 n2 c2) (.slice a3 n3 c3) sp ph num nl), .int .i64 0, .int .i64 0, .int .i64 x]) ∧ Below w.heap.size w w'
 | .ok (h, at_, told) => ∃ vd vs vt, e = .returned (.tuple #[.agg (hvA h.long h.kind h.ver vd vs vt h.spin h.phase h.num h.nl), .int .i64 (at_ : Nat), .int .i64 (told : Nat), .int .i64 0]) ∧ w'.ownsRow w.heap.size 5 1 vd h.dst.length (h.dst.map bv) ∧ w'.ownsRow w.heap.size 5 1 vs h.src.length (h.src.map bv) ∧ w'.ownsRow w.heap.size 5 1 vt h.tok.length (h.tok.map bv) ∧ Below w.heap.size w w'
end Go.Proofs.Ytjlpppnpdgenfaa

end
