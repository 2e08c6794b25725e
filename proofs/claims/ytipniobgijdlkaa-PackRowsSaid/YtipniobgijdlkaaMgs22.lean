/- VarR; VarR2; FrmD1. -/
import Derived.Test.YtipniobgijdlkaaMgs5
import Derived.Test.YtipniobgijdlkaaMgs6
import Derived.Test.YtipniobgijdlkaaMgs7
import Derived.Test.YtipniobgijdlkaaMgs11
import Derived.Test.YtipniobgijdlkaaMgs2
import Derived.Test.YtipniobgijdlkaaMgs13
section
/- The walks of the document's numbers that tell their own length: how many bytes, laid in so many, laid in the least, and read. -/
namespace Hdr
open Go Go.Rw
theorem vmk_fit : ∀ c : Fin 64, (UInt8.ofNat c.1 &&& 63) = UInt8.ofNat c.1 := by decide
theorem fit_byte {n p : Nat} (hp : 0 < p) (h : n < 64 * p) : UInt8.ofNat (n / p) &&& 63 = UInt8.ofNat (n / p) :=
  vmk_fit ⟨n / p, (Nat.div_lt_iff_lt_mul hp).2 h⟩
theorem ofInt_mod (n : Nat) : UInt8.ofInt ((n : Int) % 256) = UInt8.ofNat n := by
  apply UInt8.toNat_inj.1
  have e : UInt8.ofInt ((n : Int) % 256) = UInt8.ofNat (n % 256) := by
    unfold UInt8.ofInt
    congr 1
    omega
  rw [e]
  simp
theorem ofInt_div (n p : Nat) : UInt8.ofInt ((n : Int) / (p : Int) % 256) = UInt8.ofNat (n / p) := ofInt_mod (n / p)
theorem ofInt_div8 (n p : Nat) : UInt8.ofInt ((n : Int) / (p : Int)) = UInt8.ofNat (n / p) := by
  rw [← ofInt_div]
  unfold UInt8.ofInt
  congr 1
  omega
/-- The mark of so many bytes, as a power. -/
def mkp (many : Nat) : Nat := if many = 1 then 0 else if many = 2 then 1 else if many = 4 then 2 else 3
end Hdr
namespace Go.Proofs.Ytipniobgijdlkaa
open Go.RowKit Go.Rw Hdr
attribute [local go_sem ↓] s1_0 s1_1 s1_2 s1_3 shift_shl8
set_option maxRecDepth 20000 in
set_option maxHeartbeats 1000000 in
theorem rlen_any (n : Nat) (hn : n < 18446744073709551616) (w : World) :
    Calls Try.prog 61 #[.int .u64 (n : Nat)] w fun e w' => e = .returned (.int .i64 (vlen n : Nat)) ∧ w = w' := by
  obtain ⟨v, hv⟩ : ∃ v, vlen n = v := ⟨_, rfl⟩
  rw [hv]
  unfold vlen at hv
  by_cases h1 : n < 64
  · rw [if_pos h1] at hv
    have c0 : ((decide ((n : Int) < 64)) : Bool) = true := decide_eq_true (by omega)
    subst hv
    clear hn h1
    go_enter Try.func61, Try.ntmps61
    go_wp2_with fail
    go_ret
    exact ⟨rfl, rfl⟩
  rw [if_neg h1] at hv
  by_cases h2 : n < 16384
  · rw [if_pos h2] at hv
    have c0 : ((decide ((n : Int) < 64)) : Bool) = false := decide_eq_false (by omega)
    have c1 : ((decide ((n : Int) < 16384)) : Bool) = true := decide_eq_true (by omega)
    subst hv
    clear hn h1 h2
    go_enter Try.func61, Try.ntmps61
    go_wp2_with fail
    go_ret
    exact ⟨rfl, rfl⟩
  rw [if_neg h2] at hv
  by_cases h3 : n < 1073741824
  · rw [if_pos h3] at hv
    have c0 : ((decide ((n : Int) < 64)) : Bool) = false := decide_eq_false (by omega)
    have c1 : ((decide ((n : Int) < 16384)) : Bool) = false := decide_eq_false (by omega)
    have c2 : ((decide ((n : Int) < 1073741824)) : Bool) = true := decide_eq_true (by omega)
    subst hv
    clear hn h1 h2 h3
    go_enter Try.func61, Try.ntmps61
    go_wp2_with fail
    go_ret
    exact ⟨rfl, rfl⟩
  rw [if_neg h3] at hv
  by_cases h4 : n < 4611686018427387904
  · rw [if_pos h4] at hv
    have c0 : ((decide ((n : Int) < 64)) : Bool) = false := decide_eq_false (by omega)
    have c1 : ((decide ((n : Int) < 16384)) : Bool) = false := decide_eq_false (by omega)
    have c2 : ((decide ((n : Int) < 1073741824)) : Bool) = false := decide_eq_false (by omega)
    have c3 : ((decide ((n : Int) ≤ 4611686018427387903)) : Bool) = true := decide_eq_true (by omega)
    subst hv
    clear hn h1 h2 h3 h4
    go_enter Try.func61, Try.ntmps61
    go_wp2_with fail
    go_ret
    exact ⟨rfl, rfl⟩
  rw [if_neg h4] at hv
  have c0 : ((decide ((n : Int) < 64)) : Bool) = false := decide_eq_false (by omega)
  have c1 : ((decide ((n : Int) < 16384)) : Bool) = false := decide_eq_false (by omega)
  have c2 : ((decide ((n : Int) < 1073741824)) : Bool) = false := decide_eq_false (by omega)
  have c3 : ((decide ((n : Int) ≤ 4611686018427387903)) : Bool) = false := decide_eq_false (by omega)
  subst hv
  clear hn h1 h2 h3 h4
  go_enter Try.func61, Try.ntmps61
  go_wp2_with fail
  go_ret
  exact ⟨rfl, rfl⟩
attribute [local go_sem ↓] s1_0 s1_1 s1_2 s1_3 shift_shl8 shift_shr8 shift_shl64 shift_shr64

set_option maxRecDepth 20000 in
set_option maxHeartbeats 1000000 in
theorem rin_1 (l : List UInt8) (n : Nat) (hl : l.length ≤ 1000000) (_hn : n < 18446744073709551616) (hfit : n < 64 * 256 ^ 0) (v : Value) (w : World) (hs : Sl w v l) :
    Calls Try.prog 60 #[v, .int .u64 (n : Nat), .int .i64 1] w fun e w' => ∃ v', e = .returned v' ∧ w'.ownsRow w.heap.size 5 1 v' (l ++ vin n 1).length ((l ++ vin n 1).map bv) ∧ Below w.heap.size w w' := by
  obtain ⟨i0, hi, hz0, hz1, hz2⟩ := info_parts info8
  have hbl := vin_length n 1
  have hstep := vin_take_succ n 1
  have hvk : vmk 1 = 0 := by decide
  rw [hvk] at hstep
  have hfb := fit_byte (Nat.pow_pos (n := 0) (by decide : 0 < 256)) hfit
  generalize hBE : vin n 1 = Z at hbl hstep ⊢
  have HST := Lib.hid hstep
  have HBL := Lib.hid hbl
  have HFB := Lib.hid hfb
  clear hstep hBE hbl hfb hvk hfit
  obtain ⟨ao, cap, rfl, -, -, -⟩ := id hs
  go_enter Try.func60, Try.ntmps60
  have HS := Lib.hid hs
  clear hs
  go_wp2_with (at_builtin; refine app_sl rfl _ _ 25 rfl w.heap.size 5 i0 Try.underlying25 hi hz0 hz1 hz2 (.slice none 0 0) [] rfl (World.ownsRow_nil _ _ _ _) (.slice ao l.length cap) l rfl HS.out (by simp; omega) (Nat.le_refl _) ?_)
  intro v0 w1 hown hgrow
  have b1 : Below w.heap.size w w1 := (Below.refl _ _).grown hgrow (Nat.le_refl _) (by intro k hk; cases hk)
  have HO0 := Lib.hid hown
  clear hown hgrow
  go_wp2_with fail
  go_loopw [7, 8, 9, 10] (fun vb v8 v9 v10 wr => ∃ k : Nat, ∃ i : Int, k ≤ 1 ∧ i + 1 + k = 1 ∧ v8 = .int .i64 i ∧ wr.ownsRow w.heap.size 5 1 vb (l.length + k) ((l ++ Z.take k).map bv) ∧ Below w.heap.size w wr) (fun _ v _ _ _ => (intOf v + 1).toNat)
  case atStart => exact ⟨0, 0, by omega, by omega, rfl, by simpa using HO0.out, b1⟩
  case round =>
    obtain ⟨k, i, hk, hik, rfl, how, hb⟩ := hrel
    have HO := Lib.hid how
    clear how
    by_cases hlt : k < 1
    · obtain ⟨q, rfl⟩ : ∃ q : Nat, i = q := ⟨i.toNat, by omega⟩
      have hqe : 1 - 1 - k = q := by omega
      have hv := shr_byte n q
      have hst := HST.out k hlt
      rw [hqe] at hst
      have hge : (0 : Int) ≤ (q : Int) := by omega
      by_cases hk0 : k = 0
      · subst hk0
        obtain rfl : q = 0 := by omega
        rw [if_pos rfl] at hst
        have hfb := HFB.out
        obtain ⟨c, hc⟩ : ∃ c, UInt8.ofNat (n / 256 ^ 0) = c := ⟨_, rfl⟩
        rw [hc] at hv hst hfb
        have HV := Lib.hid hv
        have HC := Lib.hid hc
        have HS' := Lib.hid hst
        have HF' := Lib.hid hfb
        clear hst hfb hc
        go_wp2_with fail
        go_loopw [10] (fun v10 w' => ∃ m : Nat, m ≤ 0 ∧ v10 = .int .i64 m ∧ w' = wr) (fun v _ => 0 - (intOf v).toNat)
        case atStart => exact ⟨0, by omega, by simp, by simp⟩
        case round =>
          obtain ⟨m, hm, rfl, rfl⟩ := hrel
          have hmm : m = 0 := by omega
          rcases hmm with rfl
          · go_wp2_with (at_builtin; refine Classical.byContradiction ?_)
            intro hh; apply hh; clear hh
            have hby : UInt8.ofInt ((n : Int) % 256) = c := by rw [← HC.out, Nat.pow_zero, Nat.div_one]; exact ofInt_mod n
            rw [hby, HF'.out]
            refine app_sl rfl _ _ 25 rfl w.heap.size 5 i0 Try.underlying25 hi hz0 hz1 hz2 u7 (l ++ Z.take 0) rfl (by have := HO.out.alloc (.cells #[.int .u8 (n8 (c) : Nat)] 5); have e := HBL.out; simpa [List.length_take, e, Nat.min_eq_left (Nat.le_of_lt hlt)] using this) _ [c] rfl (Rg.lit_sl _ _ _) (by have e := HBL.out; simp; omega) (by have := hb.size; simp; omega) ?_
            intro v' w2 hown2 hgrow2
            have kb : Below w.heap.size w w2 := (hb.alloc (by have := hb.size; omega) _).grown hgrow2 (by have := hb.size; simp; omega) (fun q hq => (HO.out.lt q hq).1)
            have HO2 := Lib.hid hown2
            clear hown2 hgrow2
            go_wp2_with fail
            go_roundw
            case rel =>
              refine ⟨0 + 1, (0 : Int) - 1, by omega, by omega, by first | rfl | go_num, ?_, kb⟩
              have := HO2.out
              have e := HBL.out
              rw [HS'.out]
              simpa [List.length_take, e, Nat.min_eq_left (Nat.le_of_lt hlt), Nat.add_assoc] using this
            case measure => simp [intOf]; try omega
      · have hkb : ((q : Int) == 0) = false := by simp; omega
        rw [if_neg hk0] at hst
        generalize UInt8.ofNat (n / 256 ^ q) = c at hv hst
        have HV := Lib.hid hv
        have HS' := Lib.hid hst
        have HK0 := Lib.hid hk0
        clear hst hk0
        go_wp2_with (at_builtin; refine Classical.byContradiction ?_)
        intro hh; apply hh; clear hh
        refine app_sl rfl _ _ 25 rfl w.heap.size 5 i0 Try.underlying25 hi hz0 hz1 hz2 u7 (l ++ Z.take k) rfl (by have := HO.out.alloc (.cells #[.int .u8 (n8 (c) : Nat)] 5); have e := HBL.out; simpa [List.length_take, e, Nat.min_eq_left (Nat.le_of_lt hlt)] using this) _ [c] rfl (Rg.lit_sl _ _ _) (by have e := HBL.out; simp [e]; omega) (by have := hb.size; simp; omega) ?_
        intro v' w2 hown2 hgrow2
        have kb : Below w.heap.size w w2 := (hb.alloc (by have := hb.size; omega) _).grown hgrow2 (by have := hb.size; simp; omega) (fun q hq => (HO.out.lt q hq).1)
        have HO2 := Lib.hid hown2
        clear hown2 hgrow2
        go_wp2_with fail
        go_roundw
        case rel =>
          refine ⟨k + 1, (q : Int) - 1, by omega, by omega, by first | rfl | go_num, ?_, kb⟩
          have := HO2.out
          have e := HBL.out
          rw [HS'.out]
          simpa [List.length_take, e, Nat.min_eq_left (Nat.le_of_lt hlt), Nat.add_assoc] using this
        case measure => simp [intOf]; try omega
    · obtain rfl : k = 1 := by omega
      obtain rfl : i = -1 := by omega
      have hz : Z.take 1 = Z := List.take_of_length_le (by have := HBL.out; omega)
      go_wp2_with fail
      go_ret
      refine ⟨_, rfl, ?_, hb⟩
      have := HO.out
      rw [hz] at this
      rw [List.length_append, HBL.out]
      exact this

set_option maxRecDepth 20000 in
set_option maxHeartbeats 1000000 in
theorem rin_2 (l : List UInt8) (n : Nat) (hl : l.length ≤ 1000000) (_hn : n < 18446744073709551616) (hfit : n < 64 * 256 ^ 1) (v : Value) (w : World) (hs : Sl w v l) :
    Calls Try.prog 60 #[v, .int .u64 (n : Nat), .int .i64 2] w fun e w' => ∃ v', e = .returned v' ∧ w'.ownsRow w.heap.size 5 1 v' (l ++ vin n 2).length ((l ++ vin n 2).map bv) ∧ Below w.heap.size w w' := by
  obtain ⟨i0, hi, hz0, hz1, hz2⟩ := info_parts info8
  have hbl := vin_length n 2
  have hstep := vin_take_succ n 2
  have hvk : vmk 2 = 64 := by decide
  rw [hvk] at hstep
  have hfb := fit_byte (Nat.pow_pos (n := 1) (by decide : 0 < 256)) hfit
  generalize hBE : vin n 2 = Z at hbl hstep ⊢
  have HST := Lib.hid hstep
  have HBL := Lib.hid hbl
  have HFB := Lib.hid hfb
  clear hstep hBE hbl hfb hvk hfit
  obtain ⟨ao, cap, rfl, -, -, -⟩ := id hs
  go_enter Try.func60, Try.ntmps60
  have HS := Lib.hid hs
  clear hs
  go_wp2_with (at_builtin; refine app_sl rfl _ _ 25 rfl w.heap.size 5 i0 Try.underlying25 hi hz0 hz1 hz2 (.slice none 0 0) [] rfl (World.ownsRow_nil _ _ _ _) (.slice ao l.length cap) l rfl HS.out (by simp; omega) (Nat.le_refl _) ?_)
  intro v0 w1 hown hgrow
  have b1 : Below w.heap.size w w1 := (Below.refl _ _).grown hgrow (Nat.le_refl _) (by intro k hk; cases hk)
  have HO0 := Lib.hid hown
  clear hown hgrow
  go_wp2_with fail
  go_loopw [7, 8, 9, 10] (fun vb v8 v9 v10 wr => ∃ k : Nat, ∃ i : Int, k ≤ 2 ∧ i + 1 + k = 2 ∧ v8 = .int .i64 i ∧ wr.ownsRow w.heap.size 5 1 vb (l.length + k) ((l ++ Z.take k).map bv) ∧ Below w.heap.size w wr) (fun _ v _ _ _ => (intOf v + 1).toNat)
  case atStart => exact ⟨0, 1, by omega, by omega, rfl, by simpa using HO0.out, b1⟩
  case round =>
    obtain ⟨k, i, hk, hik, rfl, how, hb⟩ := hrel
    have HO := Lib.hid how
    clear how
    by_cases hlt : k < 2
    · obtain ⟨q, rfl⟩ : ∃ q : Nat, i = q := ⟨i.toNat, by omega⟩
      have hqe : 2 - 1 - k = q := by omega
      have hv := shr_byte n q
      have hst := HST.out k hlt
      rw [hqe] at hst
      have hge : (0 : Int) ≤ (q : Int) := by omega
      by_cases hk0 : k = 0
      · subst hk0
        obtain rfl : q = 1 := by omega
        rw [if_pos rfl] at hst
        have hfb := HFB.out
        obtain ⟨c, hc⟩ : ∃ c, UInt8.ofNat (n / 256 ^ 1) = c := ⟨_, rfl⟩
        rw [hc] at hv hst hfb
        have HV := Lib.hid hv
        have HC := Lib.hid hc
        have HS' := Lib.hid hst
        have HF' := Lib.hid hfb
        clear hst hfb hc
        go_wp2_with fail
        go_loopw [10] (fun v10 w' => ∃ m : Nat, m ≤ 1 ∧ v10 = .int .i64 m ∧ w' = wr) (fun v _ => 1 - (intOf v).toNat)
        case atStart => exact ⟨0, by omega, by simp, by simp⟩
        case round =>
          obtain ⟨m, hm, rfl, rfl⟩ := hrel
          have hmm : m = 0 ∨ m = 1 := by omega
          rcases hmm with rfl | rfl
          · go_wp2_with fail
            go_roundw
            case rel => exact ⟨1, by omega, by first | rfl | simp, by first | trivial | simp⟩
            case measure => simp [intOf]
          · go_wp2_with (at_builtin; refine Classical.byContradiction ?_)
            intro hh; apply hh; clear hh
            have hby : UInt8.ofInt ((n : Int) / 256 % 256) = c := by rw [← HC.out]; exact ofInt_div n (256 ^ 1)
            rw [hby, HF'.out]
            refine app_sl rfl _ _ 25 rfl w.heap.size 5 i0 Try.underlying25 hi hz0 hz1 hz2 u7 (l ++ Z.take 0) rfl (by have := HO.out.alloc (.cells #[.int .u8 (n8 (c ||| 64) : Nat)] 5); have e := HBL.out; simpa [List.length_take, e, Nat.min_eq_left (Nat.le_of_lt hlt)] using this) _ [c ||| 64] rfl (Rg.lit_sl _ _ _) (by have e := HBL.out; simp; omega) (by have := hb.size; simp; omega) ?_
            intro v' w2 hown2 hgrow2
            have kb : Below w.heap.size w w2 := (hb.alloc (by have := hb.size; omega) _).grown hgrow2 (by have := hb.size; simp; omega) (fun q hq => (HO.out.lt q hq).1)
            have HO2 := Lib.hid hown2
            clear hown2 hgrow2
            go_wp2_with fail
            go_roundw
            case rel =>
              refine ⟨0 + 1, (1 : Int) - 1, by omega, by omega, by first | rfl | go_num, ?_, kb⟩
              have := HO2.out
              have e := HBL.out
              rw [HS'.out]
              simpa [List.length_take, e, Nat.min_eq_left (Nat.le_of_lt hlt), Nat.add_assoc] using this
            case measure => simp [intOf]; try omega
      · have hkb : ((q : Int) == 1) = false := by simp; omega
        rw [if_neg hk0] at hst
        generalize UInt8.ofNat (n / 256 ^ q) = c at hv hst
        have HV := Lib.hid hv
        have HS' := Lib.hid hst
        have HK0 := Lib.hid hk0
        clear hst hk0
        go_wp2_with (at_builtin; refine Classical.byContradiction ?_)
        intro hh; apply hh; clear hh
        refine app_sl rfl _ _ 25 rfl w.heap.size 5 i0 Try.underlying25 hi hz0 hz1 hz2 u7 (l ++ Z.take k) rfl (by have := HO.out.alloc (.cells #[.int .u8 (n8 (c) : Nat)] 5); have e := HBL.out; simpa [List.length_take, e, Nat.min_eq_left (Nat.le_of_lt hlt)] using this) _ [c] rfl (Rg.lit_sl _ _ _) (by have e := HBL.out; simp [e]; omega) (by have := hb.size; simp; omega) ?_
        intro v' w2 hown2 hgrow2
        have kb : Below w.heap.size w w2 := (hb.alloc (by have := hb.size; omega) _).grown hgrow2 (by have := hb.size; simp; omega) (fun q hq => (HO.out.lt q hq).1)
        have HO2 := Lib.hid hown2
        clear hown2 hgrow2
        go_wp2_with fail
        go_roundw
        case rel =>
          refine ⟨k + 1, (q : Int) - 1, by omega, by omega, by first | rfl | go_num, ?_, kb⟩
          have := HO2.out
          have e := HBL.out
          rw [HS'.out]
          simpa [List.length_take, e, Nat.min_eq_left (Nat.le_of_lt hlt), Nat.add_assoc] using this
        case measure => simp [intOf]; try omega
    · obtain rfl : k = 2 := by omega
      obtain rfl : i = -1 := by omega
      have hz : Z.take 2 = Z := List.take_of_length_le (by have := HBL.out; omega)
      go_wp2_with fail
      go_ret
      refine ⟨_, rfl, ?_, hb⟩
      have := HO.out
      rw [hz] at this
      rw [List.length_append, HBL.out]
      exact this

set_option maxRecDepth 20000 in
set_option maxHeartbeats 1000000 in
theorem rin_4 (l : List UInt8) (n : Nat) (hl : l.length ≤ 1000000) (_hn : n < 18446744073709551616) (hfit : n < 64 * 256 ^ 3) (v : Value) (w : World) (hs : Sl w v l) :
    Calls Try.prog 60 #[v, .int .u64 (n : Nat), .int .i64 4] w fun e w' => ∃ v', e = .returned v' ∧ w'.ownsRow w.heap.size 5 1 v' (l ++ vin n 4).length ((l ++ vin n 4).map bv) ∧ Below w.heap.size w w' := by
  obtain ⟨i0, hi, hz0, hz1, hz2⟩ := info_parts info8
  have hbl := vin_length n 4
  have hstep := vin_take_succ n 4
  have hvk : vmk 4 = 128 := by decide
  rw [hvk] at hstep
  have hfb := fit_byte (Nat.pow_pos (n := 3) (by decide : 0 < 256)) hfit
  generalize hBE : vin n 4 = Z at hbl hstep ⊢
  have HST := Lib.hid hstep
  have HBL := Lib.hid hbl
  have HFB := Lib.hid hfb
  clear hstep hBE hbl hfb hvk hfit
  obtain ⟨ao, cap, rfl, -, -, -⟩ := id hs
  go_enter Try.func60, Try.ntmps60
  have HS := Lib.hid hs
  clear hs
  go_wp2_with (at_builtin; refine app_sl rfl _ _ 25 rfl w.heap.size 5 i0 Try.underlying25 hi hz0 hz1 hz2 (.slice none 0 0) [] rfl (World.ownsRow_nil _ _ _ _) (.slice ao l.length cap) l rfl HS.out (by simp; omega) (Nat.le_refl _) ?_)
  intro v0 w1 hown hgrow
  have b1 : Below w.heap.size w w1 := (Below.refl _ _).grown hgrow (Nat.le_refl _) (by intro k hk; cases hk)
  have HO0 := Lib.hid hown
  clear hown hgrow
  go_wp2_with fail
  go_loopw [7, 8, 9, 10] (fun vb v8 v9 v10 wr => ∃ k : Nat, ∃ i : Int, k ≤ 4 ∧ i + 1 + k = 4 ∧ v8 = .int .i64 i ∧ wr.ownsRow w.heap.size 5 1 vb (l.length + k) ((l ++ Z.take k).map bv) ∧ Below w.heap.size w wr) (fun _ v _ _ _ => (intOf v + 1).toNat)
  case atStart => exact ⟨0, 3, by omega, by omega, rfl, by simpa using HO0.out, b1⟩
  case round =>
    obtain ⟨k, i, hk, hik, rfl, how, hb⟩ := hrel
    have HO := Lib.hid how
    clear how
    by_cases hlt : k < 4
    · obtain ⟨q, rfl⟩ : ∃ q : Nat, i = q := ⟨i.toNat, by omega⟩
      have hqe : 4 - 1 - k = q := by omega
      have hv := shr_byte n q
      have hst := HST.out k hlt
      rw [hqe] at hst
      have hge : (0 : Int) ≤ (q : Int) := by omega
      by_cases hk0 : k = 0
      · subst hk0
        obtain rfl : q = 3 := by omega
        rw [if_pos rfl] at hst
        have hfb := HFB.out
        obtain ⟨c, hc⟩ : ∃ c, UInt8.ofNat (n / 256 ^ 3) = c := ⟨_, rfl⟩
        rw [hc] at hv hst hfb
        have HV := Lib.hid hv
        have HC := Lib.hid hc
        have HS' := Lib.hid hst
        have HF' := Lib.hid hfb
        clear hst hfb hc
        go_wp2_with fail
        go_loopw [10] (fun v10 w' => ∃ m : Nat, m ≤ 2 ∧ v10 = .int .i64 m ∧ w' = wr) (fun v _ => 2 - (intOf v).toNat)
        case atStart => exact ⟨0, by omega, by simp, by simp⟩
        case round =>
          obtain ⟨m, hm, rfl, rfl⟩ := hrel
          have hmm : m = 0 ∨ m = 1 ∨ m = 2 := by omega
          rcases hmm with rfl | rfl | rfl
          · go_wp2_with fail
            go_roundw
            case rel => exact ⟨1, by omega, by first | rfl | simp, by first | trivial | simp⟩
            case measure => simp [intOf]
          · go_wp2_with fail
            go_roundw
            case rel => exact ⟨2, by omega, by first | rfl | simp, by first | trivial | simp⟩
            case measure => simp [intOf]
          · go_wp2_with (at_builtin; refine Classical.byContradiction ?_)
            intro hh; apply hh; clear hh
            have hby : UInt8.ofInt ((n : Int) / 16777216 % 256) = c := by rw [← HC.out]; exact ofInt_div n (256 ^ 3)
            rw [hby, HF'.out]
            refine app_sl rfl _ _ 25 rfl w.heap.size 5 i0 Try.underlying25 hi hz0 hz1 hz2 u7 (l ++ Z.take 0) rfl (by have := HO.out.alloc (.cells #[.int .u8 (n8 (c ||| 128) : Nat)] 5); have e := HBL.out; simpa [List.length_take, e, Nat.min_eq_left (Nat.le_of_lt hlt)] using this) _ [c ||| 128] rfl (Rg.lit_sl _ _ _) (by have e := HBL.out; simp; omega) (by have := hb.size; simp; omega) ?_
            intro v' w2 hown2 hgrow2
            have kb : Below w.heap.size w w2 := (hb.alloc (by have := hb.size; omega) _).grown hgrow2 (by have := hb.size; simp; omega) (fun q hq => (HO.out.lt q hq).1)
            have HO2 := Lib.hid hown2
            clear hown2 hgrow2
            go_wp2_with fail
            go_roundw
            case rel =>
              refine ⟨0 + 1, (3 : Int) - 1, by omega, by omega, by first | rfl | go_num, ?_, kb⟩
              have := HO2.out
              have e := HBL.out
              rw [HS'.out]
              simpa [List.length_take, e, Nat.min_eq_left (Nat.le_of_lt hlt), Nat.add_assoc] using this
            case measure => simp [intOf]; try omega
      · have hkb : ((q : Int) == 3) = false := by simp; omega
        rw [if_neg hk0] at hst
        generalize UInt8.ofNat (n / 256 ^ q) = c at hv hst
        have HV := Lib.hid hv
        have HS' := Lib.hid hst
        have HK0 := Lib.hid hk0
        clear hst hk0
        go_wp2_with (at_builtin; refine Classical.byContradiction ?_)
        intro hh; apply hh; clear hh
        refine app_sl rfl _ _ 25 rfl w.heap.size 5 i0 Try.underlying25 hi hz0 hz1 hz2 u7 (l ++ Z.take k) rfl (by have := HO.out.alloc (.cells #[.int .u8 (n8 (c) : Nat)] 5); have e := HBL.out; simpa [List.length_take, e, Nat.min_eq_left (Nat.le_of_lt hlt)] using this) _ [c] rfl (Rg.lit_sl _ _ _) (by have e := HBL.out; simp [e]; omega) (by have := hb.size; simp; omega) ?_
        intro v' w2 hown2 hgrow2
        have kb : Below w.heap.size w w2 := (hb.alloc (by have := hb.size; omega) _).grown hgrow2 (by have := hb.size; simp; omega) (fun q hq => (HO.out.lt q hq).1)
        have HO2 := Lib.hid hown2
        clear hown2 hgrow2
        go_wp2_with fail
        go_roundw
        case rel =>
          refine ⟨k + 1, (q : Int) - 1, by omega, by omega, by first | rfl | go_num, ?_, kb⟩
          have := HO2.out
          have e := HBL.out
          rw [HS'.out]
          simpa [List.length_take, e, Nat.min_eq_left (Nat.le_of_lt hlt), Nat.add_assoc] using this
        case measure => simp [intOf]; try omega
    · obtain rfl : k = 4 := by omega
      obtain rfl : i = -1 := by omega
      have hz : Z.take 4 = Z := List.take_of_length_le (by have := HBL.out; omega)
      go_wp2_with fail
      go_ret
      refine ⟨_, rfl, ?_, hb⟩
      have := HO.out
      rw [hz] at this
      rw [List.length_append, HBL.out]
      exact this

set_option maxRecDepth 20000 in
set_option maxHeartbeats 1000000 in
theorem rin_8 (l : List UInt8) (n : Nat) (hl : l.length ≤ 1000000) (hn : n < 18446744073709551616) (hfit : n < 64 * 256 ^ 7) (v : Value) (w : World) (hs : Sl w v l) :
    Calls Try.prog 60 #[v, .int .u64 (n : Nat), .int .i64 8] w fun e w' => ∃ v', e = .returned v' ∧ w'.ownsRow w.heap.size 5 1 v' (l ++ vin n 8).length ((l ++ vin n 8).map bv) ∧ Below w.heap.size w w' := by
  obtain ⟨i0, hi, hz0, hz1, hz2⟩ := info_parts info8
  have hbl := vin_length n 8
  have hstep := vin_take_succ n 8
  have hvk : vmk 8 = 192 := by decide
  rw [hvk] at hstep
  have hfb := fit_byte (Nat.pow_pos (n := 7) (by decide : 0 < 256)) hfit
  generalize hBE : vin n 8 = Z at hbl hstep ⊢
  have HST := Lib.hid hstep
  have HBL := Lib.hid hbl
  have HFB := Lib.hid hfb
  clear hstep hBE hbl hfb hvk hfit
  obtain ⟨ao, cap, rfl, -, -, -⟩ := id hs
  go_enter Try.func60, Try.ntmps60
  have HS := Lib.hid hs
  clear hs
  go_wp2_with (at_builtin; refine app_sl rfl _ _ 25 rfl w.heap.size 5 i0 Try.underlying25 hi hz0 hz1 hz2 (.slice none 0 0) [] rfl (World.ownsRow_nil _ _ _ _) (.slice ao l.length cap) l rfl HS.out (by simp; omega) (Nat.le_refl _) ?_)
  intro v0 w1 hown hgrow
  have b1 : Below w.heap.size w w1 := (Below.refl _ _).grown hgrow (Nat.le_refl _) (by intro k hk; cases hk)
  have HO0 := Lib.hid hown
  clear hown hgrow
  go_wp2_with fail
  go_loopw [7, 8, 9, 10] (fun vb v8 v9 v10 wr => ∃ k : Nat, ∃ i : Int, k ≤ 8 ∧ i + 1 + k = 8 ∧ v8 = .int .i64 i ∧ wr.ownsRow w.heap.size 5 1 vb (l.length + k) ((l ++ Z.take k).map bv) ∧ Below w.heap.size w wr) (fun _ v _ _ _ => (intOf v + 1).toNat)
  case atStart => exact ⟨0, 7, by omega, by omega, rfl, by simpa using HO0.out, b1⟩
  case round =>
    obtain ⟨k, i, hk, hik, rfl, how, hb⟩ := hrel
    have HO := Lib.hid how
    clear how
    by_cases hlt : k < 8
    · obtain ⟨q, rfl⟩ : ∃ q : Nat, i = q := ⟨i.toNat, by omega⟩
      have hqe : 8 - 1 - k = q := by omega
      have hv := shr_byte n q
      have hst := HST.out k hlt
      rw [hqe] at hst
      have hge : (0 : Int) ≤ (q : Int) := by omega
      by_cases hk0 : k = 0
      · subst hk0
        obtain rfl : q = 7 := by omega
        rw [if_pos rfl] at hst
        have hfb := HFB.out
        obtain ⟨c, hc⟩ : ∃ c, UInt8.ofNat (n / 256 ^ 7) = c := ⟨_, rfl⟩
        rw [hc] at hv hst hfb
        have HV := Lib.hid hv
        have HC := Lib.hid hc
        have HS' := Lib.hid hst
        have HF' := Lib.hid hfb
        clear hst hfb hc
        go_wp2_with fail
        go_loopw [10] (fun v10 w' => ∃ m : Nat, m ≤ 3 ∧ v10 = .int .i64 m ∧ w' = wr) (fun v _ => 3 - (intOf v).toNat)
        case atStart => exact ⟨0, by omega, by simp, by simp⟩
        case round =>
          obtain ⟨m, hm, rfl, rfl⟩ := hrel
          have hmm : m = 0 ∨ m = 1 ∨ m = 2 ∨ m = 3 := by omega
          rcases hmm with rfl | rfl | rfl | rfl
          · go_wp2_with fail
            go_roundw
            case rel => exact ⟨1, by omega, by first | rfl | simp, by first | trivial | simp⟩
            case measure => simp [intOf]
          · go_wp2_with fail
            go_roundw
            case rel => exact ⟨2, by omega, by first | rfl | simp, by first | trivial | simp⟩
            case measure => simp [intOf]
          · go_wp2_with fail
            go_roundw
            case rel => exact ⟨3, by omega, by first | rfl | simp, by first | trivial | simp⟩
            case measure => simp [intOf]
          · go_wp2_with (at_builtin; refine Classical.byContradiction ?_)
            intro hh; apply hh; clear hh
            have hby : UInt8.ofInt ((n : Int) / 72057594037927936) = c := by rw [← HC.out]; exact ofInt_div8 n (256 ^ 7)
            rw [hby, HF'.out]
            refine app_sl rfl _ _ 25 rfl w.heap.size 5 i0 Try.underlying25 hi hz0 hz1 hz2 u7 (l ++ Z.take 0) rfl (by have := HO.out.alloc (.cells #[.int .u8 (n8 (c ||| 192) : Nat)] 5); have e := HBL.out; simpa [List.length_take, e, Nat.min_eq_left (Nat.le_of_lt hlt)] using this) _ [c ||| 192] rfl (Rg.lit_sl _ _ _) (by have e := HBL.out; simp; omega) (by have := hb.size; simp; omega) ?_
            intro v' w2 hown2 hgrow2
            have kb : Below w.heap.size w w2 := (hb.alloc (by have := hb.size; omega) _).grown hgrow2 (by have := hb.size; simp; omega) (fun q hq => (HO.out.lt q hq).1)
            have HO2 := Lib.hid hown2
            clear hown2 hgrow2
            go_wp2_with fail
            go_roundw
            case rel =>
              refine ⟨0 + 1, (7 : Int) - 1, by omega, by omega, by first | rfl | go_num, ?_, kb⟩
              have := HO2.out
              have e := HBL.out
              rw [HS'.out]
              simpa [List.length_take, e, Nat.min_eq_left (Nat.le_of_lt hlt), Nat.add_assoc] using this
            case measure => simp [intOf]; try omega
      · have hkb : ((q : Int) == 7) = false := by simp; omega
        rw [if_neg hk0] at hst
        generalize UInt8.ofNat (n / 256 ^ q) = c at hv hst
        have HV := Lib.hid hv
        have HS' := Lib.hid hst
        have HK0 := Lib.hid hk0
        clear hst hk0
        go_wp2_with (at_builtin; refine Classical.byContradiction ?_)
        intro hh; apply hh; clear hh
        refine app_sl rfl _ _ 25 rfl w.heap.size 5 i0 Try.underlying25 hi hz0 hz1 hz2 u7 (l ++ Z.take k) rfl (by have := HO.out.alloc (.cells #[.int .u8 (n8 (c) : Nat)] 5); have e := HBL.out; simpa [List.length_take, e, Nat.min_eq_left (Nat.le_of_lt hlt)] using this) _ [c] rfl (Rg.lit_sl _ _ _) (by have e := HBL.out; simp [e]; omega) (by have := hb.size; simp; omega) ?_
        intro v' w2 hown2 hgrow2
        have kb : Below w.heap.size w w2 := (hb.alloc (by have := hb.size; omega) _).grown hgrow2 (by have := hb.size; simp; omega) (fun q hq => (HO.out.lt q hq).1)
        have HO2 := Lib.hid hown2
        clear hown2 hgrow2
        go_wp2_with fail
        go_roundw
        case rel =>
          refine ⟨k + 1, (q : Int) - 1, by omega, by omega, by first | rfl | go_num, ?_, kb⟩
          have := HO2.out
          have e := HBL.out
          rw [HS'.out]
          simpa [List.length_take, e, Nat.min_eq_left (Nat.le_of_lt hlt), Nat.add_assoc] using this
        case measure => simp [intOf]; try omega
    · obtain rfl : k = 8 := by omega
      obtain rfl : i = -1 := by omega
      have hz : Z.take 8 = Z := List.take_of_length_le (by have := HBL.out; omega)
      go_wp2_with fail
      go_ret
      refine ⟨_, rfl, ?_, hb⟩
      have := HO.out
      rw [hz] at this
      rw [List.length_append, HBL.out]
      exact this
end Go.Proofs.Ytipniobgijdlkaa
end
section
/- The walks of the document's numbers, laid in the least bytes and read; of its parts of a header. -/
namespace Hdr
open Go Go.Rw
theorem vlen_fit {n : Nat} (h : n < 4611686018427387904) : (vlen n = 1 ∨ vlen n = 2 ∨ vlen n = 4 ∨ vlen n = 8) ∧ n < 64 * 256 ^ (vlen n - 1) := by
  unfold vlen
  repeat' split
  all_goals first | omega | (refine ⟨by omega, ?_⟩; simp only [Nat.reduceSub, Nat.reducePow, Nat.reduceMul]; omega)
end Hdr
namespace Go.Proofs.Ytipniobgijdlkaa
open Go.RowKit Go.Rw Hdr
theorem rin_any (many : Nat) (hm : many = 1 ∨ many = 2 ∨ many = 4 ∨ many = 8) (l : List UInt8) (n : Nat) (hl : l.length ≤ 1000000) (hn : n < 18446744073709551616) (hfit : n < 64 * 256 ^ (many - 1)) (v : Value) (w : World) (hs : Sl w v l) :
    Calls Try.prog 60 #[v, .int .u64 (n : Nat), .int .i64 (many : Nat)] w fun e w' => ∃ v', e = .returned v' ∧ w'.ownsRow w.heap.size 5 1 v' (l ++ vin n many).length ((l ++ vin n many).map bv) ∧ Below w.heap.size w w' := by
  rcases hm with rfl | rfl | rfl | rfl
  · exact rin_1 l n hl hn hfit v w hs
  · exact rin_2 l n hl hn hfit v w hs
  · exact rin_4 l n hl hn hfit v w hs
  · exact rin_8 l n hl hn hfit v w hs
set_option maxHeartbeats 1000000 in
theorem rput_any (l : List UInt8) (n : Nat) (hl : l.length ≤ 1000000) (hn : n < 4611686018427387904) (v : Value) (w : World) (hs : Sl w v l) :
    Calls Try.prog 43 #[v, .int .u64 (n : Nat)] w fun e w' => ∃ v', e = .returned v' ∧ w'.ownsRow w.heap.size 5 1 v' (l ++ vin n (vlen n)).length ((l ++ vin n (vlen n)).map bv) ∧ Below w.heap.size w w' := by
  have hv := fun W => rlen_any n (by omega) W
  have hp := fun W hs => rin_any (vlen n) (vlen_fit hn).1 l n hl (by omega) (vlen_fit hn).2 v W hs
  generalize vlen n = many at hv hp ⊢
  have HP := Lib.hid hp
  have HS := Lib.hid hs
  have HV := Lib.hid hv
  clear hv hp hs
  go_enter Try.func43, Try.ntmps43
  go_wp2_with fail
  refine (HV.out _).mono ?_
  rintro e w1 ⟨rfl, rfl⟩
  go_wp2_with fail
  refine (HP.out _ HS.out).mono ?_
  rintro e w2 ⟨v', rfl, o2, b2⟩
  have O2 := Lib.hid o2
  clear o2
  go_wp2_with fail
  go_ret
  exact ⟨_, rfl, O2.out, b2⟩
attribute [local go_sem ↓] shift_shl8 shift_shr8 shift_shl64 shift_shr64 shl1_many
set_option maxRecDepth 20000 in
set_option maxHeartbeats 1000000 in
theorem rvget_any (l : List UInt8) (hl : l.length ≤ 1000000) (v : Value) (w : World) (hs : Sl w v l) :
    Calls Try.prog 69 #[v] w fun e w' => e = .returned (.tuple #[.int .u64 ((vget l).1 : Nat), .int .i64 ((vget l).2.1 : Nat), .int .i64 (vget l).2.2]) ∧ w = w' := by
  have hs0 := hs
  obtain ⟨ao, cap, rfl, hc, hnn, hp⟩ := hs0
  clear hnn
  by_cases h0 : l.length = 0
  · have e : vget l = (0, 0, 3) := by unfold vget; rw [if_pos (.inl h0)]
    rw [e]
    go_enter Try.func69, Try.ntmps69
    go_wp2_with fail
    go_ret3
    exact ⟨rfl, rfl⟩
  obtain ⟨b, off, rfl, hcell⟩ := hp (by omega)
  clear hp
  have c0 : w.cell? ⟨b, off, none⟩ = some (.int .u8 (n8 (nth l 0) : Nat)) := by have := hcell 0 (by omega); simpa using this
  have hmp := vmany_pos (nth l 0)
  have hm8 := vmany_le (nth l 0)
  by_cases hsh : l.length < vmany (nth l 0)
  · have e : vget l = (0, 0, 3) := by unfold vget; rw [if_pos (.inr hsh)]
    rw [e]
    clear hcell hs
    go_enter Try.func69, Try.ntmps69
    go_wp2_with fail
    go_ret3
    exact ⟨rfl, rfl⟩
  have e : vget l = (vnum l, vmany (nth l 0), 0) := by unfold vget; rw [if_neg (by omega)]
  rw [e]
  unfold vnum
  have hTn : ∀ k, k + 1 < vmany (nth l 0) → nth ((l.take (vmany (nth l 0))).drop 1) k = nth l (k + 1) := by
    intro k hk
    unfold nth
    unfold nth at hk
    rw [List.getElem?_drop, List.getElem?_take, Nat.add_comm 1 k, if_pos hk]
  have hTl : ((l.take (vmany (nth l 0))).drop 1).length = vmany (nth l 0) - 1 := by simp; omega
  generalize (l.take (vmany (nth l 0))).drop 1 = T at hTn hTl ⊢
  obtain ⟨c, hcdef⟩ : ∃ c, c = nth l 0 := ⟨_, rfl⟩
  rw [← hcdef] at c0 hmp hm8 hsh e hTn hTl ⊢
  have hx := and63 c
  have hx64 : n8 (c &&& 63) < 64 := by omega
  rw [← hx]
  show Calls _ _ _ _ fun e w' => e = .returned (.tuple #[.int .u64 ((foldN (n8 (c &&& 63)) T : Nat) : Int), _, _]) ∧ _
  generalize hmany : vmany c = m at *
  clear hs e hcdef
  have HX := Lib.hid hx64
  have HTL := Lib.hid hTl
  have HTN := Lib.hid hTn
  have HCL := Lib.hid hcell
  clear hx hx64 hTl hTn hcell
  go_enter Try.func69, Try.ntmps69
  go_wp2_with fail
  go_loopw [6, 7] (fun va v wr => ∃ k i : Nat, i = k + 1 ∧ i ≤ m ∧ va = .int .u64 (foldN (n8 (c &&& 63)) (T.take k) : Nat) ∧ v = .int .i64 (i : Nat) ∧ w = wr) (fun _ v _ => m - (intOf v).toNat)
  case atStart => exact ⟨0, 1, rfl, hmp, by rw [n64_wide]; rfl, rfl, rfl⟩
  case round =>
    obtain ⟨k, i, hki, hk, rfl, rfl, rfl⟩ := hrel
    by_cases hlt2 : i < m
    · have hlk : k < T.length := by have := HTL.out; omega
      have c1 := HCL.out i (by omega)
      have hnt := HTN.out k (by omega)
      rw [← hki] at hnt
      rw [← hnt] at c1
      have hxk := foldN_lt (x := n8 (c &&& 63)) (k := k) T HX.out (by have := HTL.out; rw [List.length_take]; omega)
      have hst := num_step (foldN (n8 (c &&& 63)) (T.take k)) (nth T k) hxk
      rw [← foldN_succ _ T k hlk] at hst
      obtain ⟨X, hX⟩ : ∃ X : UInt64, X = UInt64.ofNat (foldN (n8 (c &&& 63)) (T.take k)) := ⟨_, rfl⟩
      have hq : foldN (n8 (c &&& 63)) (T.take k) = n64 X := by rw [hX]; exact (n64_ofNat _ (by omega)).symm
      rw [← hX] at hst
      rw [hq]
      have HS := Lib.hid hst
      have HKI := Lib.hid hki
      clear hq hX hxk hst hnt hki
      go_wp2_with fail
      go_roundw
      case rel => exact ⟨k + 1, i + 1, by have := HKI.out; omega, by omega, by rw [← HS.out], by go_num, by first | rfl | trivial⟩
      case measure => simp [intOf]; omega
    · obtain rfl : i = m := by omega
      have hk1 : T.length ≤ k := by have := HTL.out; omega
      rw [List.take_of_length_le hk1]
      go_wp2_with fail
      go_ret3
      exact ⟨rfl, rfl⟩
end Go.Proofs.Ytipniobgijdlkaa
end
section
/- The walks of the document's reader of frames: a number, so many bytes. -/
namespace Frm
open Go Go.RowKit Go.Rw Hdr
/-- A number of the document's reader, at most so great. -/
def dnum (b : List UInt8) (most : Nat) (s : Nat × Int) : (Nat × Int) × Nat :=
  if s.2 ≠ 0 then (s, 0) else if (vget (b.drop s.1)).2.2 ≠ 0 then ((s.1, (vget (b.drop s.1)).2.2), 0)
  else if most < (vget (b.drop s.1)).1 then ((s.1, 5), 0) else ((s.1 + (vget (b.drop s.1)).2.1, 0), (vget (b.drop s.1)).1)
theorem dnum_bad {b : List UInt8} {most : Nat} {s : Nat × Int} (h : s.2 ≠ 0) : dnum b most s = (s, 0) := by unfold dnum; rw [if_pos h]
theorem dnum_le (b : List UInt8) (most : Nat) (s : Nat × Int) (h : s.1 ≤ b.length) : (dnum b most s).1.1 ≤ b.length := by
  unfold dnum
  have := vget_many (b.drop s.1)
  rw [List.length_drop] at this
  repeat' split
  all_goals simp only []
  all_goals omega
theorem dnum_lt62 (b : List UInt8) (most : Nat) (s : Nat × Int) : (dnum b most s).2 < 4611686018427387904 := by
  unfold dnum
  have := vget_lt62 (b.drop s.1)
  repeat' split
  all_goals simp only []
  all_goals omega
theorem dnum_most (b : List UInt8) (most : Nat) (s : Nat × Int) : (dnum b most s).2 ≤ most := by
  unfold dnum
  repeat' split
  all_goals simp only []
  all_goals omega
end Frm
namespace Go.Proofs.Ytipniobgijdlkaa
open Go.RowKit Go.Rw Frm Hdr
set_option maxRecDepth 20000 in
set_option maxHeartbeats 1000000 in
theorem dnum_any (b : List UInt8) (w0 : World) (vb : Value) (B : Nat) (w : World) (s : Nat × Int) (most : Nat) (hr : RS b w0 vb B w s) :
    Calls Try.prog 57 #[.pointer (some ⟨B, 0, none⟩), .int .u64 (most : Nat)] w fun e w' => e = .returned (.int .u64 ((dnum b most s).2 : Nat)) ∧ Mut B w w' ∧ RS b w0 vb B w' (dnum b most s).1 := by
  obtain ⟨at_, er⟩ := s
  obtain ⟨c0, c1, c2, ff⟩ := rs_cells hr
  have hat : at_ ≤ b.length := hr.at_
  have hlen := hr.len
  obtain ⟨ao, cap, rfl, hc, -, -⟩ := id hr.sl
  have HR := Lib.hid hr
  clear hr
  by_cases he : er = 0
  case neg =>
    rw [dnum_bad (b := b) (most := most) (s := (at_, er)) he]
    have q0 : (er != 0) = true := by simpa using he
    go_enter Try.func57, Try.ntmps57
    go_wp2_with fail
    go_ret
    exact ⟨rfl, Mut.refl _ _, HR.out⟩
  subst he
  have hv := rvget_any (b.drop at_) (by rw [List.length_drop]; omega)
  have hsc := HR.out.sl.cut at_ b.length hat (Nat.le_refl _)
  rw [List.take_length] at hsc
  have hle := dnum_le b most (at_, 0) hat
  obtain ⟨q, hq⟩ : ∃ q, dnum b most (at_, 0) = q := ⟨_, rfl⟩
  rw [hq] at hle ⊢
  have hm8 := vget_many8 (b.drop at_)
  unfold dnum at hq
  rw [if_neg (by simp)] at hq
  simp only [] at hq
  generalize vget (b.drop at_) = p at *
  obtain ⟨n, many, x⟩ := p
  simp only [] at hv hm8 hq ⊢
  have hcut : ∀ W, (Instr.sliceAt 25 (.slice ao b.length cap) (some (.int .i64 (at_ : Nat))) none none).run Try.prog W = .ok (.slice (cutA ao at_ cap) (b.length - at_) (cap - at_)) W := fun W => by
    rw [cut_l TB W _ _ _ _ _ (by omega) (by omega), Int.toNat_natCast]
  have HV := Lib.hid hv
  have SC := Lib.hid hsc
  have HQ := Lib.hid hq
  have HLE := Lib.hid hle
  clear hv hsc hq hle
  go_enter Try.func57, Try.ntmps57
  go_wp2_with fail
  refine Rg.wp_region_plan (Rg.row [(0, 3), (1, 3), (2, 3), (3, 0), (4, 3), (5, 3), (6, 3), (7, 0), (8, 3), (9, 1), (10, 3), (11, 3), (12, 3), (13, 3), (14, 3), (15, 3), (16, 3)] []) [] (by kernel_rfl) (by kernel_rfl) ?_
  simp only [Rg.row, Rg.PT.map, List.map_nil, List.getD_cons_zero, List.getD_cons_succ]
  go_wp2_with (first
    | ((with_reducible refine Rg.plan_pure ?_ ?_ ?_); kernel_rfl; kernel_rfl; intro _ _)
    | ((with_reducible refine Rg.plan_take ?_ ?_ ?_); kernel_rfl; kernel_rfl; intro _ _)
    | ((with_reducible refine Rg.plan_keep ?_ ?_); kernel_rfl; intro K hK)
    | (refine hK _ _ (Rg.Keep.refl _) ?_; clear hK)
    | (refine hK _ _ (Rg.Keep.of_below (by assumption)) ?_; clear hK)
    | ((with_reducible refine Rg.plan_skip ?_ ?_); kernel_rfl)
    | (with_reducible refine Rg.plan_done ?_)
    | (with_reducible refine Rg.calm_normal ?_))
  refine (HV.out _ _ (SC.out.below HR.out.bel.drew)).mono ?_
  rintro e w1 ⟨rfl, rfl⟩
  refine hK _ _ (Rg.Keep.refl _) ?_
  clear hK c0 c1 c2 ff
  have R1 := Lib.hid (RSdrew HR.out)
  obtain ⟨c0, c1, c2, ff⟩ := rs_cells R1.out
  have hq := HQ.out
  by_cases hx : x = 0
  case neg =>
    have q1 : (x == 0) = false := by simpa using hx
    have q2 : (x != 0) = true := by simpa using hx
    rw [if_pos hx] at hq
    subst hq
    clear HQ hx
    go_wp2_with (first
      | ((with_reducible refine Rg.plan_pure ?_ ?_ ?_); kernel_rfl; kernel_rfl; intro _ _)
      | ((with_reducible refine Rg.plan_take ?_ ?_ ?_); kernel_rfl; kernel_rfl; intro _ _)
      | ((with_reducible refine Rg.plan_keep ?_ ?_); kernel_rfl; intro K hK)
      | (refine hK _ _ (Rg.Keep.refl _) ?_; clear hK)
      | (refine hK _ _ (Rg.Keep.of_below (by assumption)) ?_; clear hK)
      | ((with_reducible refine Rg.plan_skip ?_ ?_); kernel_rfl)
      | (with_reducible refine Rg.plan_done ?_)
      | (with_reducible refine Rg.calm_normal ?_))
    go_ret
    have m : Mut B w ((w.setCell ⟨B, 2, none⟩ (.int .i64 x)).drew) := ((Mut.refl _ _).setCell _ _ _).drew
    exact ⟨rfl, m, HR.out.mut m (by rw [row?_drew, row?_setCell_eq HR.out.row]; rfl) HR.out.at_⟩
  subst hx
  rw [if_neg (by simp)] at hq
  by_cases hm : most < n
  case pos =>
    rw [if_pos hm] at hq
    subst hq
    have q1 : decide ((most : Int) < (n : Int)) = true := decide_eq_true (by omega)
    have q2 : decide (most < n) = true := decide_eq_true hm
    clear HQ hm
    go_wp2_with (first
      | ((with_reducible refine Rg.plan_pure ?_ ?_ ?_); kernel_rfl; kernel_rfl; intro _ _)
      | ((with_reducible refine Rg.plan_take ?_ ?_ ?_); kernel_rfl; kernel_rfl; intro _ _)
      | ((with_reducible refine Rg.plan_keep ?_ ?_); kernel_rfl; intro K hK)
      | (refine hK _ _ (Rg.Keep.refl _) ?_; clear hK)
      | (refine hK _ _ (Rg.Keep.of_below (by assumption)) ?_; clear hK)
      | ((with_reducible refine Rg.plan_skip ?_ ?_); kernel_rfl)
      | (with_reducible refine Rg.plan_done ?_)
      | (with_reducible refine Rg.calm_normal ?_))
    go_ret
    have m : Mut B w ((w.setCell ⟨B, 2, none⟩ (.int .i64 5)).drew) := ((Mut.refl _ _).setCell _ _ _).drew
    exact ⟨rfl, m, HR.out.mut m (by rw [row?_drew, row?_setCell_eq HR.out.row]; rfl) HR.out.at_⟩
  rw [if_neg hm] at hq
  subst hq
  have q1 : decide ((most : Int) < (n : Int)) = false := decide_eq_false (by omega)
  have q2 : decide (most < n) = false := decide_eq_false hm
  have hwr : wrap64 ((at_ : Int) + (many : Int)) = (at_ : Int) + (many : Int) := by unfold wrap64; omega
  clear HQ hm
  go_wp2_with (first
    | ((with_reducible refine Rg.plan_pure ?_ ?_ ?_); kernel_rfl; kernel_rfl; intro _ _)
    | ((with_reducible refine Rg.plan_take ?_ ?_ ?_); kernel_rfl; kernel_rfl; intro _ _)
    | ((with_reducible refine Rg.plan_keep ?_ ?_); kernel_rfl; intro K hK)
    | (refine hK _ _ (Rg.Keep.refl _) ?_; clear hK)
    | (refine hK _ _ (Rg.Keep.of_below (by assumption)) ?_; clear hK)
    | ((with_reducible refine Rg.plan_skip ?_ ?_); kernel_rfl)
    | (with_reducible refine Rg.plan_done ?_)
    | (with_reducible refine Rg.calm_normal ?_))
  go_ret
  have m : Mut B w ((w.setCell ⟨B, 1, none⟩ (.int .i64 ((at_ : Int) + (many : Int)))).drew) := ((Mut.refl _ _).setCell _ _ _).drew
  exact ⟨rfl, m, HR.out.mut m (by rw [row?_drew, row?_setCell_eq HR.out.row, ← Int.natCast_add]; rfl) HLE.out⟩
set_option maxRecDepth 20000 in
set_option maxHeartbeats 1000000 in
theorem dtake_any (b : List UInt8) (w0 : World) (vb : Value) (B : Nat) (w : World) (s : Nat × Int) (n : Nat) (hn : n < 4611686018427387904) (hr : RS b w0 vb B w s) :
    Calls Try.prog 58 #[.pointer (some ⟨B, 0, none⟩), .int .i64 (n : Nat)] w fun e w' => ∃ v, e = .returned v ∧ w'.ownsRow w.heap.size 5 1 v (rtake b n s).2.length ((rtake b n s).2.map bv) ∧ Mut B w w' ∧ RS b w0 vb B w' (rtake b n s).1 := by
  obtain ⟨at_, er⟩ := s
  obtain ⟨i0, hi0, hz0, hz1, hz2⟩ := info_parts info8
  obtain ⟨c0, c1, c2, ff⟩ := rs_cells hr
  have hat : at_ ≤ b.length := hr.at_
  have hlen := hr.len
  obtain ⟨ao, cap, rfl, hc, -, -⟩ := id hr.sl
  simp only [] at c1
  have hw1 : wrap64 ((b.length : Int) - (at_ : Int)) = (b.length : Int) - (at_ : Int) := by unfold wrap64; omega
  have HR := Lib.hid hr
  obtain ⟨q, hq⟩ : ∃ q, rtake b n (at_, er) = q := ⟨_, rfl⟩
  rw [hq]
  have HQ := Lib.hid hq
  clear hr hq
  by_cases he : er = 0
  case neg =>
    have e2 : rtake b n (at_, er) = ((at_, er), []) := rtake_bad (by simpa using he)
    have e3 : (er != 0) = true := by simpa using he
    have hq := HQ.out
    rw [e2] at hq
    subst hq
    clear e2 HQ he
    go_enter Try.func58, Try.ntmps58
    go_wp2_with fail
    go_ret
    exact ⟨_, rfl, World.ownsRow_nil _ _ _ _, Mut.refl _ _, HR.out⟩
  subst he
  by_cases hsh : b.length - at_ < n
  case pos =>
    have hq := HQ.out
    rw [rtake_short hsh] at hq
    subst hq
    have q1 : decide ((b.length : Int) - (at_ : Int) < (n : Int)) = true := decide_eq_true (by omega)
    have q2 : decide (b.length - at_ < n) = true := decide_eq_true hsh
    clear HQ hsh
    go_enter Try.func58, Try.ntmps58
    go_wp2_with fail
    refine Rg.wp_region_plan (Rg.row [(0, 3), (1, 3), (2, 3), (3, 3), (4, 0), (5, 0), (6, 3), (7, 3), (8, 3), (9, 0), (10, 3), (11, 3)] []) [] (by kernel_rfl) (by kernel_rfl) ?_
    simp only [Rg.row, Rg.PT.map, List.map_nil, List.getD_cons_zero, List.getD_cons_succ]
    go_wp2_with (first
      | ((with_reducible refine Rg.plan_pure ?_ ?_ ?_); kernel_rfl; kernel_rfl; intro _ _)
      | ((with_reducible refine Rg.plan_take ?_ ?_ ?_); kernel_rfl; kernel_rfl; intro _ _)
      | ((with_reducible refine Rg.plan_keep ?_ ?_); kernel_rfl; intro K hK)
      | (refine hK _ _ (Rg.Keep.refl _) ?_; clear hK)
      | (refine hK _ _ (Rg.Keep.of_below (by assumption)) ?_; clear hK)
      | ((with_reducible refine Rg.plan_skip ?_ ?_); kernel_rfl)
      | (with_reducible refine Rg.plan_done ?_)
      | (with_reducible refine Rg.calm_normal ?_))
    go_ret
    have m : Mut B w ((w.setCell ⟨B, 2, none⟩ (.int .i64 3)).drew) := ((Mut.refl _ _).setCell _ _ _).drew
    exact ⟨_, rfl, World.ownsRow_nil _ _ _ _, m, HR.out.mut m (by rw [row?_drew, row?_setCell_eq HR.out.row]; rfl) HR.out.at_⟩
  have hq := HQ.out
  rw [rtake_ok (by omega)] at hq
  obtain ⟨T, hT⟩ : ∃ T, (b.drop at_).take n = T := ⟨_, rfl⟩
  rw [hT] at hq
  have HT := Lib.hid hT
  clear hT
  subst hq
  have q1 : decide ((b.length : Int) - (at_ : Int) < (n : Int)) = false := decide_eq_false (by omega)
  have q2 : decide (b.length - at_ < n) = false := decide_eq_false hsh
  have hnl : n ≤ 1000000 := by omega
  have hw4 : wrap64 ((at_ : Int) + (n : Int)) = (at_ : Int) + (n : Int) := by unfold wrap64; omega
  go_enter Try.func58, Try.ntmps58
  go_wp2_with fail
  refine Rg.wp_region_plan (Rg.row [(0, 3), (1, 3), (2, 3), (3, 3), (4, 0), (5, 0), (6, 3), (7, 3), (8, 3), (9, 0), (10, 3), (11, 3)] []) [] (by kernel_rfl) (by kernel_rfl) ?_
  simp only [Rg.row, Rg.PT.map, List.map_nil, List.getD_cons_zero, List.getD_cons_succ]
  go_wp2_with (first
    | ((with_reducible refine Rg.plan_pure ?_ ?_ ?_); kernel_rfl; kernel_rfl; intro _ _)
    | ((with_reducible refine Rg.plan_take ?_ ?_ ?_); kernel_rfl; kernel_rfl; intro _ _)
    | ((with_reducible refine Rg.plan_keep ?_ ?_); kernel_rfl; intro K hK)
    | (refine hK _ _ (Rg.Keep.refl _) ?_; clear hK)
    | (refine hK _ _ (Rg.Keep.of_below (by assumption)) ?_; clear hK)
    | ((with_reducible refine Rg.plan_skip ?_ ?_); kernel_rfl)
    | (with_reducible refine Rg.plan_done ?_)
    | (with_reducible refine Rg.calm_normal ?_))
  have m3 : Mut B w ((w.setCell ⟨B, 1, none⟩ (.int .i64 ((at_ : Int) + (n : Int)))).drew) := ((Mut.refl _ _).setCell _ _ _).drew
  have r3 : RS b w0 (.slice ao b.length cap) B ((w.setCell ⟨B, 1, none⟩ (.int .i64 ((at_ : Int) + (n : Int)))).drew) (at_ + n, 0) := HR.out.mut m3 (by rw [row?_drew, row?_setCell_eq HR.out.row, ← Int.natCast_add]; rfl) (by show at_ + n ≤ b.length; omega)
  clear c0 c1 c2 ff
  generalize ((w.setCell ⟨B, 1, none⟩ (.int .i64 ((at_ : Int) + (n : Int)))).drew) = w3 at m3 r3 ⊢
  obtain ⟨c0, c1, c2, ff⟩ := rs_cells r3
  simp only [Int.natCast_add] at c1
  have hw5 : wrap64 ((at_ : Int) + (n : Int) - (n : Int)) = (at_ : Int) := by unfold wrap64; omega
  have hcut : ∀ W, (Instr.sliceAt 25 (.slice ao b.length cap) (some (.int .i64 (at_ : Nat))) (some (.int .i64 ((at_ : Int) + n))) none).run Try.prog W = .ok (.slice (cutA ao at_ cap) n (cap - at_)) W := fun W => by
    rw [show ((at_ : Int) + n) = ((at_ + n : Nat) : Int) from rfl, cut_lh TB W _ _ _ _ _ _ _ (by omega) (by omega) (by omega), Int.toNat_natCast, Int.toNat_natCast, Nat.add_sub_cancel_left]
  have hsc := r3.sl.cut at_ (at_ + n) (by omega) (by omega)
  rw [Nat.add_sub_cancel_left, List.drop_take, Nat.add_sub_cancel_left] at hsc
  have hln : ((b.drop at_).take n).length = n := by rw [List.length_take, List.length_drop]; omega
  rw [HT.out] at hsc hln
  have M3 := Lib.hid m3
  have R3 := Lib.hid r3
  have SC := Lib.hid hsc
  have HLN := Lib.hid hln
  clear m3 r3 hsc HR hw4 hln q1 q2 hw1
  refine Rg.wp_region_plan (Rg.row [(0, 3), (1, 3), (2, 3), (3, 0), (4, 3), (5, 3), (6, 3), (7, 0), (8, 3), (9, 3), (10, 3), (11, 3), (12, 3), (13, 0), (14, 3), (15, 1), (16, 3)] []) [] (by kernel_rfl) (by kernel_rfl) ?_
  simp only [Rg.row, Rg.PT.map, List.map_nil, List.getD_cons_zero, List.getD_cons_succ]
  go_wp2_with (first
    | (with_reducible refine Rg.hold_plan 49 1 ?_)
    | ((with_reducible refine Rg.plan_pure ?_ ?_ ?_); kernel_rfl; kernel_rfl; intro _ _)
    | ((with_reducible refine Rg.plan_take ?_ ?_ ?_); kernel_rfl; kernel_rfl; intro _ _)
    | ((with_reducible refine Rg.plan_keep ?_ ?_); kernel_rfl; intro K hK)
    | (refine hK _ _ (Rg.Keep.refl _) ?_; clear hK)
    | (refine hK _ _ (Rg.Keep.of_below (by assumption)) ?_; clear hK)
    | ((with_reducible refine Rg.plan_skip ?_ ?_); kernel_rfl)
    | (with_reducible refine Rg.plan_done ?_)
    | (with_reducible refine Rg.calm_normal ?_))
  refine Rw.Held.mk ?_
  refine Rg.plan_app0 (v := .slice (cutA ao at_ cap) n (cap - at_)) (l := T) 49 rfl (.tmp 48) rfl (by kernel_rfl) Try.underlying25 hi0 hz0 hz1 hz2 (by kernel_rfl) (SC.out.below R3.out.bel.drew) (by have := HLN.out; omega) ?_
  intro v4 w4 o4 b4
  have m4 : Mut B w w4 := M3.out.drew.trans (Mut.of_below b4)
  have R4 := Lib.hid ((RSdrew R3.out).mut (Mut.of_below b4) (by rw [row?_below b4 (row?_lt R3.out.row)]; exact R3.out.row) R3.out.at_)
  have O4 := Lib.hid (own_lower o4 M3.out.drew.size)
  clear o4 b4 c0 c1 c2 ff hw5 hcut
  go_wp2_with (first
    | ((with_reducible refine Rg.plan_pure ?_ ?_ ?_); kernel_rfl; kernel_rfl; intro _ _)
    | ((with_reducible refine Rg.plan_take ?_ ?_ ?_); kernel_rfl; kernel_rfl; intro _ _)
    | ((with_reducible refine Rg.plan_keep ?_ ?_); kernel_rfl; intro K hK)
    | (refine hK _ _ (Rg.Keep.refl _) ?_; clear hK)
    | (refine hK _ _ (Rg.Keep.of_below (by assumption)) ?_; clear hK)
    | ((with_reducible refine Rg.plan_skip ?_ ?_); kernel_rfl)
    | (with_reducible refine Rg.plan_done ?_)
    | (with_reducible refine Rg.calm_normal ?_))
  go_ret
  exact ⟨_, rfl, O4.out, m4, R4.out⟩
end Go.Proofs.Ytipniobgijdlkaa
end
