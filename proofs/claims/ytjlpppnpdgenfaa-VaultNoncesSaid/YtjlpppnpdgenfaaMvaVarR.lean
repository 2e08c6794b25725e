/- The walks of the document's numbers that tell their own length: how many bytes, laid in so many, laid in the least, and read. -/
import Derived.Test.YtjlpppnpdgenfaaMvaVarW
import Derived.Test.YtjlpppnpdgenfaaMva3
import Derived.Test.YtjlpppnpdgenfaaMvaLibY
namespace Hdr
open Go Go.Rw
theorem vmk_fit : ∀ c : Fin 64, (UInt8.ofNat c.1 &&& 63) = UInt8.ofNat c.1 := by decide
theorem fit_byte {n p : Nat} (hp : 0 < p) (h : n < 64 * p) : UInt8.ofNat (n / p) &&& 63 = UInt8.ofNat (n / p) :=
  vmk_fit ⟨n / p, (Nat.div_lt_iff_lt_mul hp).2 h⟩
theorem ofInt_mod (n : Nat) : UInt8.ofInt ((n : Int) % 256) = UInt8.ofNat n := by
  apply UInt8.toNat_inj.1
  have e : UInt8.ofInt ((n : Int) % 256) = UInt8.ofNat (n % 256) := by
    unfold UInt8.ofInt
    congr 1
    omega
  rw [e]
  simp
theorem ofInt_div (n p : Nat) : UInt8.ofInt ((n : Int) / (p : Int) % 256) = UInt8.ofNat (n / p) := ofInt_mod (n / p)
theorem ofInt_div8 (n p : Nat) : UInt8.ofInt ((n : Int) / (p : Int)) = UInt8.ofNat (n / p) := by
  rw [← ofInt_div]
  unfold UInt8.ofInt
  congr 1
  omega
/-- The mark of so many bytes, as a power. -/
def mkp (many : Nat) : Nat := if many = 1 then 0 else if many = 2 then 1 else if many = 4 then 2 else 3
end Hdr
namespace Go.Proofs.Ytjlpppnpdgenfaa
open Go.RowKit Go.Rw Hdr
attribute [local go_sem ↓] s1_0 s1_1 s1_2 s1_3 shift_shl8
set_option maxRecDepth 100000 in
set_option maxHeartbeats 1000000 in
theorem rlen_any (n : Nat) (hn : n < 18446744073709551616) (w : World) :
    Calls Try.prog 75 #[.int .u64 (n : Nat)] w fun e w' => e = .returned (.int .i64 (vlen n : Nat)) ∧ w = w' := by
  obtain ⟨v, hv⟩ : ∃ v, vlen n = v := ⟨_, rfl⟩
  rw [hv]
  unfold vlen at hv
  by_cases h1 : n < 64
  · rw [if_pos h1] at hv
    have c0 : ((decide ((n : Int) < 64)) : Bool) = true := decide_eq_true (by omega)
    subst hv
    clear hn h1
    go_enter Try.func75, Try.ntmps75
    go_wp2_with fail
    go_ret
    exact ⟨rfl, rfl⟩
  rw [if_neg h1] at hv
  by_cases h2 : n < 16384
  · rw [if_pos h2] at hv
    have c0 : ((decide ((n : Int) < 64)) : Bool) = false := decide_eq_false (by omega)
    have c1 : ((decide ((n : Int) < 16384)) : Bool) = true := decide_eq_true (by omega)
    subst hv
    clear hn h1 h2
    go_enter Try.func75, Try.ntmps75
    go_wp2_with fail
    go_ret
    exact ⟨rfl, rfl⟩
  rw [if_neg h2] at hv
  by_cases h3 : n < 1073741824
  · rw [if_pos h3] at hv
    have c0 : ((decide ((n : Int) < 64)) : Bool) = false := decide_eq_false (by omega)
    have c1 : ((decide ((n : Int) < 16384)) : Bool) = false := decide_eq_false (by omega)
    have c2 : ((decide ((n : Int) < 1073741824)) : Bool) = true := decide_eq_true (by omega)
    subst hv
    clear hn h1 h2 h3
    go_enter Try.func75, Try.ntmps75
    go_wp2_with fail
    go_ret
    exact ⟨rfl, rfl⟩
  rw [if_neg h3] at hv
  by_cases h4 : n < 4611686018427387904
  · rw [if_pos h4] at hv
    have c0 : ((decide ((n : Int) < 64)) : Bool) = false := decide_eq_false (by omega)
    have c1 : ((decide ((n : Int) < 16384)) : Bool) = false := decide_eq_false (by omega)
    have c2 : ((decide ((n : Int) < 1073741824)) : Bool) = false := decide_eq_false (by omega)
    have c3 : ((decide ((n : Int) ≤ 4611686018427387903)) : Bool) = true := decide_eq_true (by omega)
    subst hv
    clear hn h1 h2 h3 h4
    go_enter Try.func75, Try.ntmps75
    go_wp2_with fail
    go_ret
    exact ⟨rfl, rfl⟩
  rw [if_neg h4] at hv
  have c0 : ((decide ((n : Int) < 64)) : Bool) = false := decide_eq_false (by omega)
  have c1 : ((decide ((n : Int) < 16384)) : Bool) = false := decide_eq_false (by omega)
  have c2 : ((decide ((n : Int) < 1073741824)) : Bool) = false := decide_eq_false (by omega)
  have c3 : ((decide ((n : Int) ≤ 4611686018427387903)) : Bool) = false := decide_eq_false (by omega)
  subst hv
  clear hn h1 h2 h3 h4
  go_enter Try.func75, Try.ntmps75
  go_wp2_with fail
  go_ret
  exact ⟨rfl, rfl⟩
attribute [local go_sem ↓] s1_0 s1_1 s1_2 s1_3 shift_shl8 shift_shr8 shift_shl64 shift_shr64

set_option maxRecDepth 100000 in
set_option maxHeartbeats 1000000 in
theorem rin_1 (l : List UInt8) (n : Nat) (hl : l.length ≤ 1000000) (_hn : n < 18446744073709551616) (hfit : n < 64 * 256 ^ 0) (v : Value) (w : World) (hs : Sl w v l) :
    Calls Try.prog 53 #[v, .int .u64 (n : Nat), .int .i64 1] w fun e w' => ∃ v', e = .returned v' ∧ w'.ownsRow w.heap.size 5 1 v' (l ++ vin n 1).length ((l ++ vin n 1).map bv) ∧ Below w.heap.size w w' := by
  obtain ⟨i0, hi, hz0, hz1, hz2⟩ := info_parts info8
  have hbl := vin_length n 1
  have hstep := vin_take_succ n 1
  have hvk : vmk 1 = 0 := by decide
  rw [hvk] at hstep
  have hfb := fit_byte (Nat.pow_pos (n := 0) (by decide : 0 < 256)) hfit
  generalize hBE : vin n 1 = Z at hbl hstep ⊢
  have HST := Lib.hid hstep
  have HBL := Lib.hid hbl
  have HFB := Lib.hid hfb
  clear hstep hBE hbl hfb hvk hfit
  obtain ⟨ao, cap, rfl, -, -, -⟩ := id hs
  go_enter Try.func53, Try.ntmps53
  have HS := Lib.hid hs
  clear hs
  go_wp2_with (at_builtin; refine app_sl rfl _ _ 27 rfl w.heap.size 5 i0 Try.underlying27 hi hz0 hz1 hz2 (.slice none 0 0) [] rfl (World.ownsRow_nil _ _ _ _) (.slice ao l.length cap) l rfl HS.out (by simp; omega) (Nat.le_refl _) ?_)
  intro v0 w1 hown hgrow
  have b1 : Below w.heap.size w w1 := (Below.refl _ _).grown hgrow (Nat.le_refl _) (by intro k hk; cases hk)
  have HO0 := Lib.hid hown
  clear hown hgrow
  go_wp2_with fail
  go_loopw [7, 8, 9, 10] (fun vb v8 v9 v10 wr => ∃ k : Nat, ∃ i : Int, k ≤ 1 ∧ i + 1 + k = 1 ∧ v8 = .int .i64 i ∧ wr.ownsRow w.heap.size 5 1 vb (l.length + k) ((l ++ Z.take k).map bv) ∧ Below w.heap.size w wr) (fun _ v _ _ _ => (intOf v + 1).toNat)
  case atStart => exact ⟨0, 0, by omega, by omega, rfl, by simpa using HO0.out, b1⟩
  case round =>
    obtain ⟨k, i, hk, hik, rfl, how, hb⟩ := hrel
    have HO := Lib.hid how
    clear how
    by_cases hlt : k < 1
    · obtain ⟨q, rfl⟩ : ∃ q : Nat, i = q := ⟨i.toNat, by omega⟩
      have hqe : 1 - 1 - k = q := by omega
      have hv := shr_byte n q
      have hst := HST.out k hlt
      rw [hqe] at hst
      have hge : (0 : Int) ≤ (q : Int) := by omega
      by_cases hk0 : k = 0
      · subst hk0
        obtain rfl : q = 0 := by omega
        rw [if_pos rfl] at hst
        have hfb := HFB.out
        obtain ⟨c, hc⟩ : ∃ c, UInt8.ofNat (n / 256 ^ 0) = c := ⟨_, rfl⟩
        rw [hc] at hv hst hfb
        have HV := Lib.hid hv
        have HC := Lib.hid hc
        have HS' := Lib.hid hst
        have HF' := Lib.hid hfb
        clear hst hfb hc
        go_wp2_with fail
        go_loopw [10] (fun v10 w' => ∃ m : Nat, m ≤ 0 ∧ v10 = .int .i64 m ∧ w' = wr) (fun v _ => 0 - (intOf v).toNat)
        case atStart => exact ⟨0, by omega, by simp, by simp⟩
        case round =>
          obtain ⟨m, hm, rfl, rfl⟩ := hrel
          have hmm : m = 0 := by omega
          rcases hmm with rfl
          · go_wp2_with (at_builtin; refine Classical.byContradiction ?_)
            intro hh; apply hh; clear hh
            have hby : UInt8.ofInt ((n : Int) % 256) = c := by rw [← HC.out, Nat.pow_zero, Nat.div_one]; exact ofInt_mod n
            rw [hby, HF'.out]
            refine app_sl rfl _ _ 27 rfl w.heap.size 5 i0 Try.underlying27 hi hz0 hz1 hz2 u7 (l ++ Z.take 0) rfl (by have := HO.out.alloc (.cells #[.int .u8 (n8 (c) : Nat)] 5); have e := HBL.out; simpa [List.length_take, e, Nat.min_eq_left (Nat.le_of_lt hlt)] using this) _ [c] rfl (Rg.lit_sl _ _ _) (by have e := HBL.out; simp; omega) (by have := hb.size; simp; omega) ?_
            intro v' w2 hown2 hgrow2
            have kb : Below w.heap.size w w2 := (hb.alloc (by have := hb.size; omega) _).grown hgrow2 (by have := hb.size; simp; omega) (fun q hq => (HO.out.lt q hq).1)
            have HO2 := Lib.hid hown2
            clear hown2 hgrow2
            go_wp2_with fail
            go_roundw
            case rel =>
              refine ⟨0 + 1, (0 : Int) - 1, by omega, by omega, by first | rfl | go_num, ?_, kb⟩
              have := HO2.out
              have e := HBL.out
              rw [HS'.out]
              simpa [List.length_take, e, Nat.min_eq_left (Nat.le_of_lt hlt), Nat.add_assoc] using this
            case measure => simp [intOf]; try omega
      · have hkb : ((q : Int) == 0) = false := by simp; omega
        rw [if_neg hk0] at hst
        generalize UInt8.ofNat (n / 256 ^ q) = c at hv hst
        have HV := Lib.hid hv
        have HS' := Lib.hid hst
        have HK0 := Lib.hid hk0
        clear hst hk0
        go_wp2_with (at_builtin; refine Classical.byContradiction ?_)
        intro hh; apply hh; clear hh
        refine app_sl rfl _ _ 27 rfl w.heap.size 5 i0 Try.underlying27 hi hz0 hz1 hz2 u7 (l ++ Z.take k) rfl (by have := HO.out.alloc (.cells #[.int .u8 (n8 (c) : Nat)] 5); have e := HBL.out; simpa [List.length_take, e, Nat.min_eq_left (Nat.le_of_lt hlt)] using this) _ [c] rfl (Rg.lit_sl _ _ _) (by have e := HBL.out; simp [e]; omega) (by have := hb.size; simp; omega) ?_
        intro v' w2 hown2 hgrow2
        have kb : Below w.heap.size w w2 := (hb.alloc (by have := hb.size; omega) _).grown hgrow2 (by have := hb.size; simp; omega) (fun q hq => (HO.out.lt q hq).1)
        have HO2 := Lib.hid hown2
        clear hown2 hgrow2
        go_wp2_with fail
        go_roundw
        case rel =>
          refine ⟨k + 1, (q : Int) - 1, by omega, by omega, by first | rfl | go_num, ?_, kb⟩
          have := HO2.out
          have e := HBL.out
          rw [HS'.out]
          simpa [List.length_take, e, Nat.min_eq_left (Nat.le_of_lt hlt), Nat.add_assoc] using this
        case measure => simp [intOf]; try omega
    · obtain rfl : k = 1 := by omega
      obtain rfl : i = -1 := by omega
      have hz : Z.take 1 = Z := List.take_of_length_le (by have := HBL.out; omega)
      go_wp2_with fail
      go_ret
      refine ⟨_, rfl, ?_, hb⟩
      have := HO.out
      rw [hz] at this
      rw [List.length_append, HBL.out]
      exact this

set_option maxRecDepth 100000 in
set_option maxHeartbeats 1000000 in
theorem rin_2 (l : List UInt8) (n : Nat) (hl : l.length ≤ 1000000) (_hn : n < 18446744073709551616) (hfit : n < 64 * 256 ^ 1) (v : Value) (w : World) (hs : Sl w v l) :
    Calls Try.prog 53 #[v, .int .u64 (n : Nat), .int .i64 2] w fun e w' => ∃ v', e = .returned v' ∧ w'.ownsRow w.heap.size 5 1 v' (l ++ vin n 2).length ((l ++ vin n 2).map bv) ∧ Below w.heap.size w w' := by
  obtain ⟨i0, hi, hz0, hz1, hz2⟩ := info_parts info8
  have hbl := vin_length n 2
  have hstep := vin_take_succ n 2
  have hvk : vmk 2 = 64 := by decide
  rw [hvk] at hstep
  have hfb := fit_byte (Nat.pow_pos (n := 1) (by decide : 0 < 256)) hfit
  generalize hBE : vin n 2 = Z at hbl hstep ⊢
  have HST := Lib.hid hstep
  have HBL := Lib.hid hbl
  have HFB := Lib.hid hfb
  clear hstep hBE hbl hfb hvk hfit
  obtain ⟨ao, cap, rfl, -, -, -⟩ := id hs
  go_enter Try.func53, Try.ntmps53
  have HS := Lib.hid hs
  clear hs
  go_wp2_with (at_builtin; refine app_sl rfl _ _ 27 rfl w.heap.size 5 i0 Try.underlying27 hi hz0 hz1 hz2 (.slice none 0 0) [] rfl (World.ownsRow_nil _ _ _ _) (.slice ao l.length cap) l rfl HS.out (by simp; omega) (Nat.le_refl _) ?_)
  intro v0 w1 hown hgrow
  have b1 : Below w.heap.size w w1 := (Below.refl _ _).grown hgrow (Nat.le_refl _) (by intro k hk; cases hk)
  have HO0 := Lib.hid hown
  clear hown hgrow
  go_wp2_with fail
  go_loopw [7, 8, 9, 10] (fun vb v8 v9 v10 wr => ∃ k : Nat, ∃ i : Int, k ≤ 2 ∧ i + 1 + k = 2 ∧ v8 = .int .i64 i ∧ wr.ownsRow w.heap.size 5 1 vb (l.length + k) ((l ++ Z.take k).map bv) ∧ Below w.heap.size w wr) (fun _ v _ _ _ => (intOf v + 1).toNat)
  case atStart => exact ⟨0, 1, by omega, by omega, rfl, by simpa using HO0.out, b1⟩
  case round =>
    obtain ⟨k, i, hk, hik, rfl, how, hb⟩ := hrel
    have HO := Lib.hid how
    clear how
    by_cases hlt : k < 2
    · obtain ⟨q, rfl⟩ : ∃ q : Nat, i = q := ⟨i.toNat, by omega⟩
      have hqe : 2 - 1 - k = q := by omega
      have hv := shr_byte n q
      have hst := HST.out k hlt
      rw [hqe] at hst
      have hge : (0 : Int) ≤ (q : Int) := by omega
      by_cases hk0 : k = 0
      · subst hk0
        obtain rfl : q = 1 := by omega
        rw [if_pos rfl] at hst
        have hfb := HFB.out
        obtain ⟨c, hc⟩ : ∃ c, UInt8.ofNat (n / 256 ^ 1) = c := ⟨_, rfl⟩
        rw [hc] at hv hst hfb
        have HV := Lib.hid hv
        have HC := Lib.hid hc
        have HS' := Lib.hid hst
        have HF' := Lib.hid hfb
        clear hst hfb hc
        go_wp2_with fail
        go_loopw [10] (fun v10 w' => ∃ m : Nat, m ≤ 1 ∧ v10 = .int .i64 m ∧ w' = wr) (fun v _ => 1 - (intOf v).toNat)
        case atStart => exact ⟨0, by omega, by simp, by simp⟩
        case round =>
          obtain ⟨m, hm, rfl, rfl⟩ := hrel
          have hmm : m = 0 ∨ m = 1 := by omega
          rcases hmm with rfl | rfl
          · go_wp2_with fail
            go_roundw
            case rel => exact ⟨1, by omega, by first | rfl | simp, by first | trivial | simp⟩
            case measure => simp [intOf]
          · go_wp2_with (at_builtin; refine Classical.byContradiction ?_)
            intro hh; apply hh; clear hh
            have hby : UInt8.ofInt ((n : Int) / 256 % 256) = c := by rw [← HC.out]; exact ofInt_div n (256 ^ 1)
            rw [hby, HF'.out]
            refine app_sl rfl _ _ 27 rfl w.heap.size 5 i0 Try.underlying27 hi hz0 hz1 hz2 u7 (l ++ Z.take 0) rfl (by have := HO.out.alloc (.cells #[.int .u8 (n8 (c ||| 64) : Nat)] 5); have e := HBL.out; simpa [List.length_take, e, Nat.min_eq_left (Nat.le_of_lt hlt)] using this) _ [c ||| 64] rfl (Rg.lit_sl _ _ _) (by have e := HBL.out; simp; omega) (by have := hb.size; simp; omega) ?_
            intro v' w2 hown2 hgrow2
            have kb : Below w.heap.size w w2 := (hb.alloc (by have := hb.size; omega) _).grown hgrow2 (by have := hb.size; simp; omega) (fun q hq => (HO.out.lt q hq).1)
            have HO2 := Lib.hid hown2
            clear hown2 hgrow2
            go_wp2_with fail
            go_roundw
            case rel =>
              refine ⟨0 + 1, (1 : Int) - 1, by omega, by omega, by first | rfl | go_num, ?_, kb⟩
              have := HO2.out
              have e := HBL.out
              rw [HS'.out]
              simpa [List.length_take, e, Nat.min_eq_left (Nat.le_of_lt hlt), Nat.add_assoc] using this
            case measure => simp [intOf]; try omega
      · have hkb : ((q : Int) == 1) = false := by simp; omega
        rw [if_neg hk0] at hst
        generalize UInt8.ofNat (n / 256 ^ q) = c at hv hst
        have HV := Lib.hid hv
        have HS' := Lib.hid hst
        have HK0 := Lib.hid hk0
        clear hst hk0
        go_wp2_with (at_builtin; refine Classical.byContradiction ?_)
        intro hh; apply hh; clear hh
        refine app_sl rfl _ _ 27 rfl w.heap.size 5 i0 Try.underlying27 hi hz0 hz1 hz2 u7 (l ++ Z.take k) rfl (by have := HO.out.alloc (.cells #[.int .u8 (n8 (c) : Nat)] 5); have e := HBL.out; simpa [List.length_take, e, Nat.min_eq_left (Nat.le_of_lt hlt)] using this) _ [c] rfl (Rg.lit_sl _ _ _) (by have e := HBL.out; simp [e]; omega) (by have := hb.size; simp; omega) ?_
        intro v' w2 hown2 hgrow2
        have kb : Below w.heap.size w w2 := (hb.alloc (by have := hb.size; omega) _).grown hgrow2 (by have := hb.size; simp; omega) (fun q hq => (HO.out.lt q hq).1)
        have HO2 := Lib.hid hown2
        clear hown2 hgrow2
        go_wp2_with fail
        go_roundw
        case rel =>
          refine ⟨k + 1, (q : Int) - 1, by omega, by omega, by first | rfl | go_num, ?_, kb⟩
          have := HO2.out
          have e := HBL.out
          rw [HS'.out]
          simpa [List.length_take, e, Nat.min_eq_left (Nat.le_of_lt hlt), Nat.add_assoc] using this
        case measure => simp [intOf]; try omega
    · obtain rfl : k = 2 := by omega
      obtain rfl : i = -1 := by omega
      have hz : Z.take 2 = Z := List.take_of_length_le (by have := HBL.out; omega)
      go_wp2_with fail
      go_ret
      refine ⟨_, rfl, ?_, hb⟩
      have := HO.out
      rw [hz] at this
      rw [List.length_append, HBL.out]
      exact this

set_option maxRecDepth 100000 in
set_option maxHeartbeats 1000000 in
theorem rin_4 (l : List UInt8) (n : Nat) (hl : l.length ≤ 1000000) (_hn : n < 18446744073709551616) (hfit : n < 64 * 256 ^ 3) (v : Value) (w : World) (hs : Sl w v l) :
    Calls Try.prog 53 #[v, .int .u64 (n : Nat), .int .i64 4] w fun e w' => ∃ v', e = .returned v' ∧ w'.ownsRow w.heap.size 5 1 v' (l ++ vin n 4).length ((l ++ vin n 4).map bv) ∧ Below w.heap.size w w' := by
  obtain ⟨i0, hi, hz0, hz1, hz2⟩ := info_parts info8
  have hbl := vin_length n 4
  have hstep := vin_take_succ n 4
  have hvk : vmk 4 = 128 := by decide
  rw [hvk] at hstep
  have hfb := fit_byte (Nat.pow_pos (n := 3) (by decide : 0 < 256)) hfit
  generalize hBE : vin n 4 = Z at hbl hstep ⊢
  have HST := Lib.hid hstep
  have HBL := Lib.hid hbl
  have HFB := Lib.hid hfb
  clear hstep hBE hbl hfb hvk hfit
  obtain ⟨ao, cap, rfl, -, -, -⟩ := id hs
  go_enter Try.func53, Try.ntmps53
  have HS := Lib.hid hs
  clear hs
  go_wp2_with (at_builtin; refine app_sl rfl _ _ 27 rfl w.heap.size 5 i0 Try.underlying27 hi hz0 hz1 hz2 (.slice none 0 0) [] rfl (World.ownsRow_nil _ _ _ _) (.slice ao l.length cap) l rfl HS.out (by simp; omega) (Nat.le_refl _) ?_)
  intro v0 w1 hown hgrow
  have b1 : Below w.heap.size w w1 := (Below.refl _ _).grown hgrow (Nat.le_refl _) (by intro k hk; cases hk)
  have HO0 := Lib.hid hown
  clear hown hgrow
  go_wp2_with fail
  go_loopw [7, 8, 9, 10] (fun vb v8 v9 v10 wr => ∃ k : Nat, ∃ i : Int, k ≤ 4 ∧ i + 1 + k = 4 ∧ v8 = .int .i64 i ∧ wr.ownsRow w.heap.size 5 1 vb (l.length + k) ((l ++ Z.take k).map bv) ∧ Below w.heap.size w wr) (fun _ v _ _ _ => (intOf v + 1).toNat)
  case atStart => exact ⟨0, 3, by omega, by omega, rfl, by simpa using HO0.out, b1⟩
  case round =>
    obtain ⟨k, i, hk, hik, rfl, how, hb⟩ := hrel
    have HO := Lib.hid how
    clear how
    by_cases hlt : k < 4
    · obtain ⟨q, rfl⟩ : ∃ q : Nat, i = q := ⟨i.toNat, by omega⟩
      have hqe : 4 - 1 - k = q := by omega
      have hv := shr_byte n q
      have hst := HST.out k hlt
      rw [hqe] at hst
      have hge : (0 : Int) ≤ (q : Int) := by omega
      by_cases hk0 : k = 0
      · subst hk0
        obtain rfl : q = 3 := by omega
        rw [if_pos rfl] at hst
        have hfb := HFB.out
        obtain ⟨c, hc⟩ : ∃ c, UInt8.ofNat (n / 256 ^ 3) = c := ⟨_, rfl⟩
        rw [hc] at hv hst hfb
        have HV := Lib.hid hv
        have HC := Lib.hid hc
        have HS' := Lib.hid hst
        have HF' := Lib.hid hfb
        clear hst hfb hc
        go_wp2_with fail
        go_loopw [10] (fun v10 w' => ∃ m : Nat, m ≤ 2 ∧ v10 = .int .i64 m ∧ w' = wr) (fun v _ => 2 - (intOf v).toNat)
        case atStart => exact ⟨0, by omega, by simp, by simp⟩
        case round =>
          obtain ⟨m, hm, rfl, rfl⟩ := hrel
          have hmm : m = 0 ∨ m = 1 ∨ m = 2 := by omega
          rcases hmm with rfl | rfl | rfl
          · go_wp2_with fail
            go_roundw
            case rel => exact ⟨1, by omega, by first | rfl | simp, by first | trivial | simp⟩
            case measure => simp [intOf]
          · go_wp2_with fail
            go_roundw
            case rel => exact ⟨2, by omega, by first | rfl | simp, by first | trivial | simp⟩
            case measure => simp [intOf]
          · go_wp2_with (at_builtin; refine Classical.byContradiction ?_)
            intro hh; apply hh; clear hh
            have hby : UInt8.ofInt ((n : Int) / 16777216 % 256) = c := by rw [← HC.out]; exact ofInt_div n (256 ^ 3)
            rw [hby, HF'.out]
            refine app_sl rfl _ _ 27 rfl w.heap.size 5 i0 Try.underlying27 hi hz0 hz1 hz2 u7 (l ++ Z.take 0) rfl (by have := HO.out.alloc (.cells #[.int .u8 (n8 (c ||| 128) : Nat)] 5); have e := HBL.out; simpa [List.length_take, e, Nat.min_eq_left (Nat.le_of_lt hlt)] using this) _ [c ||| 128] rfl (Rg.lit_sl _ _ _) (by have e := HBL.out; simp; omega) (by have := hb.size; simp; omega) ?_
            intro v' w2 hown2 hgrow2
            have kb : Below w.heap.size w w2 := (hb.alloc (by have := hb.size; omega) _).grown hgrow2 (by have := hb.size; simp; omega) (fun q hq => (HO.out.lt q hq).1)
            have HO2 := Lib.hid hown2
            clear hown2 hgrow2
            go_wp2_with fail
            go_roundw
            case rel =>
              refine ⟨0 + 1, (3 : Int) - 1, by omega, by omega, by first | rfl | go_num, ?_, kb⟩
              have := HO2.out
              have e := HBL.out
              rw [HS'.out]
              simpa [List.length_take, e, Nat.min_eq_left (Nat.le_of_lt hlt), Nat.add_assoc] using this
            case measure => simp [intOf]; try omega
      · have hkb : ((q : Int) == 3) = false := by simp; omega
        rw [if_neg hk0] at hst
        generalize UInt8.ofNat (n / 256 ^ q) = c at hv hst
        have HV := Lib.hid hv
        have HS' := Lib.hid hst
        have HK0 := Lib.hid hk0
        clear hst hk0
        go_wp2_with (at_builtin; refine Classical.byContradiction ?_)
        intro hh; apply hh; clear hh
        refine app_sl rfl _ _ 27 rfl w.heap.size 5 i0 Try.underlying27 hi hz0 hz1 hz2 u7 (l ++ Z.take k) rfl (by have := HO.out.alloc (.cells #[.int .u8 (n8 (c) : Nat)] 5); have e := HBL.out; simpa [List.length_take, e, Nat.min_eq_left (Nat.le_of_lt hlt)] using this) _ [c] rfl (Rg.lit_sl _ _ _) (by have e := HBL.out; simp [e]; omega) (by have := hb.size; simp; omega) ?_
        intro v' w2 hown2 hgrow2
        have kb : Below w.heap.size w w2 := (hb.alloc (by have := hb.size; omega) _).grown hgrow2 (by have := hb.size; simp; omega) (fun q hq => (HO.out.lt q hq).1)
        have HO2 := Lib.hid hown2
        clear hown2 hgrow2
        go_wp2_with fail
        go_roundw
        case rel =>
          refine ⟨k + 1, (q : Int) - 1, by omega, by omega, by first | rfl | go_num, ?_, kb⟩
          have := HO2.out
          have e := HBL.out
          rw [HS'.out]
          simpa [List.length_take, e, Nat.min_eq_left (Nat.le_of_lt hlt), Nat.add_assoc] using this
        case measure => simp [intOf]; try omega
    · obtain rfl : k = 4 := by omega
      obtain rfl : i = -1 := by omega
      have hz : Z.take 4 = Z := List.take_of_length_le (by have := HBL.out; omega)
      go_wp2_with fail
      go_ret
      refine ⟨_, rfl, ?_, hb⟩
      have := HO.out
      rw [hz] at this
      rw [List.length_append, HBL.out]
      exact this

set_option maxRecDepth 100000 in
set_option maxHeartbeats 1000000 in
theorem rin_8 (l : List UInt8) (n : Nat) (hl : l.length ≤ 1000000) (hn : n < 18446744073709551616) (hfit : n < 64 * 256 ^ 7) (v : Value) (w : World) (hs : Sl w v l) :
    Calls Try.prog 53 #[v, .int .u64 (n : Nat), .int .i64 8] w fun e w' => ∃ v', e = .returned v' ∧ w'.ownsRow w.heap.size 5 1 v' (l ++ vin n 8).length ((l ++ vin n 8).map bv) ∧ Below w.heap.size w w' := by
  obtain ⟨i0, hi, hz0, hz1, hz2⟩ := info_parts info8
  have hbl := vin_length n 8
  have hstep := vin_take_succ n 8
  have hvk : vmk 8 = 192 := by decide
  rw [hvk] at hstep
  have hfb := fit_byte (Nat.pow_pos (n := 7) (by decide : 0 < 256)) hfit
  generalize hBE : vin n 8 = Z at hbl hstep ⊢
  have HST := Lib.hid hstep
  have HBL := Lib.hid hbl
  have HFB := Lib.hid hfb
  clear hstep hBE hbl hfb hvk hfit
  obtain ⟨ao, cap, rfl, -, -, -⟩ := id hs
  go_enter Try.func53, Try.ntmps53
  have HS := Lib.hid hs
  clear hs
  go_wp2_with (at_builtin; refine app_sl rfl _ _ 27 rfl w.heap.size 5 i0 Try.underlying27 hi hz0 hz1 hz2 (.slice none 0 0) [] rfl (World.ownsRow_nil _ _ _ _) (.slice ao l.length cap) l rfl HS.out (by simp; omega) (Nat.le_refl _) ?_)
  intro v0 w1 hown hgrow
  have b1 : Below w.heap.size w w1 := (Below.refl _ _).grown hgrow (Nat.le_refl _) (by intro k hk; cases hk)
  have HO0 := Lib.hid hown
  clear hown hgrow
  go_wp2_with fail
  go_loopw [7, 8, 9, 10] (fun vb v8 v9 v10 wr => ∃ k : Nat, ∃ i : Int, k ≤ 8 ∧ i + 1 + k = 8 ∧ v8 = .int .i64 i ∧ wr.ownsRow w.heap.size 5 1 vb (l.length + k) ((l ++ Z.take k).map bv) ∧ Below w.heap.size w wr) (fun _ v _ _ _ => (intOf v + 1).toNat)
  case atStart => exact ⟨0, 7, by omega, by omega, rfl, by simpa using HO0.out, b1⟩
  case round =>
    obtain ⟨k, i, hk, hik, rfl, how, hb⟩ := hrel
    have HO := Lib.hid how
    clear how
    by_cases hlt : k < 8
    · obtain ⟨q, rfl⟩ : ∃ q : Nat, i = q := ⟨i.toNat, by omega⟩
      have hqe : 8 - 1 - k = q := by omega
      have hv := shr_byte n q
      have hst := HST.out k hlt
      rw [hqe] at hst
      have hge : (0 : Int) ≤ (q : Int) := by omega
      by_cases hk0 : k = 0
      · subst hk0
        obtain rfl : q = 7 := by omega
        rw [if_pos rfl] at hst
        have hfb := HFB.out
        obtain ⟨c, hc⟩ : ∃ c, UInt8.ofNat (n / 256 ^ 7) = c := ⟨_, rfl⟩
        rw [hc] at hv hst hfb
        have HV := Lib.hid hv
        have HC := Lib.hid hc
        have HS' := Lib.hid hst
        have HF' := Lib.hid hfb
        clear hst hfb hc
        go_wp2_with fail
        go_loopw [10] (fun v10 w' => ∃ m : Nat, m ≤ 3 ∧ v10 = .int .i64 m ∧ w' = wr) (fun v _ => 3 - (intOf v).toNat)
        case atStart => exact ⟨0, by omega, by simp, by simp⟩
        case round =>
          obtain ⟨m, hm, rfl, rfl⟩ := hrel
          have hmm : m = 0 ∨ m = 1 ∨ m = 2 ∨ m = 3 := by omega
          rcases hmm with rfl | rfl | rfl | rfl
          · go_wp2_with fail
            go_roundw
            case rel => exact ⟨1, by omega, by first | rfl | simp, by first | trivial | simp⟩
            case measure => simp [intOf]
          · go_wp2_with fail
            go_roundw
            case rel => exact ⟨2, by omega, by first | rfl | simp, by first | trivial | simp⟩
            case measure => simp [intOf]
          · go_wp2_with fail
            go_roundw
            case rel => exact ⟨3, by omega, by first | rfl | simp, by first | trivial | simp⟩
            case measure => simp [intOf]
          · go_wp2_with (at_builtin; refine Classical.byContradiction ?_)
            intro hh; apply hh; clear hh
            have hby : UInt8.ofInt ((n : Int) / 72057594037927936) = c := by rw [← HC.out]; exact ofInt_div8 n (256 ^ 7)
            rw [hby, HF'.out]
            refine app_sl rfl _ _ 27 rfl w.heap.size 5 i0 Try.underlying27 hi hz0 hz1 hz2 u7 (l ++ Z.take 0) rfl (by have := HO.out.alloc (.cells #[.int .u8 (n8 (c ||| 192) : Nat)] 5); have e := HBL.out; simpa [List.length_take, e, Nat.min_eq_left (Nat.le_of_lt hlt)] using this) _ [c ||| 192] rfl (Rg.lit_sl _ _ _) (by have e := HBL.out; simp; omega) (by have := hb.size; simp; omega) ?_
            intro v' w2 hown2 hgrow2
            have kb : Below w.heap.size w w2 := (hb.alloc (by have := hb.size; omega) _).grown hgrow2 (by have := hb.size; simp; omega) (fun q hq => (HO.out.lt q hq).1)
            have HO2 := Lib.hid hown2
            clear hown2 hgrow2
            go_wp2_with fail
            go_roundw
            case rel =>
              refine ⟨0 + 1, (7 : Int) - 1, by omega, by omega, by first | rfl | go_num, ?_, kb⟩
              have := HO2.out
              have e := HBL.out
              rw [HS'.out]
              simpa [List.length_take, e, Nat.min_eq_left (Nat.le_of_lt hlt), Nat.add_assoc] using this
            case measure => simp [intOf]; try omega
      · have hkb : ((q : Int) == 7) = false := by simp; omega
        rw [if_neg hk0] at hst
        generalize UInt8.ofNat (n / 256 ^ q) = c at hv hst
        have HV := Lib.hid hv
        have HS' := Lib.hid hst
        have HK0 := Lib.hid hk0
        clear hst hk0
        go_wp2_with (at_builtin; refine Classical.byContradiction ?_)
        intro hh; apply hh; clear hh
        refine app_sl rfl _ _ 27 rfl w.heap.size 5 i0 Try.underlying27 hi hz0 hz1 hz2 u7 (l ++ Z.take k) rfl (by have := HO.out.alloc (.cells #[.int .u8 (n8 (c) : Nat)] 5); have e := HBL.out; simpa [List.length_take, e, Nat.min_eq_left (Nat.le_of_lt hlt)] using this) _ [c] rfl (Rg.lit_sl _ _ _) (by have e := HBL.out; simp [e]; omega) (by have := hb.size; simp; omega) ?_
        intro v' w2 hown2 hgrow2
        have kb : Below w.heap.size w w2 := (hb.alloc (by have := hb.size; omega) _).grown hgrow2 (by have := hb.size; simp; omega) (fun q hq => (HO.out.lt q hq).1)
        have HO2 := Lib.hid hown2
        clear hown2 hgrow2
        go_wp2_with fail
        go_roundw
        case rel =>
          refine ⟨k + 1, (q : Int) - 1, by omega, by omega, by first | rfl | go_num, ?_, kb⟩
          have := HO2.out
          have e := HBL.out
          rw [HS'.out]
          simpa [List.length_take, e, Nat.min_eq_left (Nat.le_of_lt hlt), Nat.add_assoc] using this
        case measure => simp [intOf]; try omega
    · obtain rfl : k = 8 := by omega
      obtain rfl : i = -1 := by omega
      have hz : Z.take 8 = Z := List.take_of_length_le (by have := HBL.out; omega)
      go_wp2_with fail
      go_ret
      refine ⟨_, rfl, ?_, hb⟩
      have := HO.out
      rw [hz] at this
      rw [List.length_append, HBL.out]
      exact this
end Go.Proofs.Ytjlpppnpdgenfaa
