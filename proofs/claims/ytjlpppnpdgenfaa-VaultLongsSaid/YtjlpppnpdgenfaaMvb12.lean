/- GcmT; GcmR2. -/
import Derived.Test.YtjlpppnpdgenfaaMvb11
import Derived.Test.YtjlpppnpdgenfaaMvb9
import Derived.Test.YtjlpppnpdgenfaaMvb1
section
namespace Gcm
open Go.Rw Aes
theorem n64_xor (a b : UInt64) : n64 (a ^^^ b) = n64 a ^^^ n64 b := UInt64.toNat_xor ..
theorem n64_or (a b : UInt64) : n64 (a ||| b) = n64 a ||| n64 b := UInt64.toNat_or ..
theorem n64_and (a b : UInt64) : n64 (a &&& b) = n64 a &&& n64 b := UInt64.toNat_and ..
theorem n8_or (a b : UInt8) : n8 (a ||| b) = n8 a ||| n8 b := UInt8.toNat_or ..
theorem n8_and (a b : UInt8) : n8 (a &&& b) = n8 a &&& n8 b := UInt8.toNat_and ..
theorem tb_high64 (a : UInt64) (j : Nat) (h : 64 ≤ j) : (n64 a).testBit j = false := Nat.testBit_lt_two_pow (Nat.lt_of_lt_of_le (n64_lt a) (by rw [show (18446744073709551616 : Nat) = 2 ^ 64 from rfl]; exact Nat.pow_le_pow_right (by decide) h))
theorem tb_high8 (a : UInt8) (j : Nat) (h : 8 ≤ j) : (n8 a).testBit j = false := Nat.testBit_lt_two_pow (Nat.lt_of_lt_of_le (n8_lt a) (by rw [show (256 : Nat) = 2 ^ 8 from rfl]; exact Nat.pow_le_pow_right (by decide) h))
theorem tb_shr64 (a : UInt64) (c j : Nat) : (n64 (shr64 a c)).testBit j = (n64 a).testBit (c + j) := by rw [n64_shr64, Nat.testBit_div_two_pow, Nat.add_comm]
theorem tb_shl64 (a : UInt64) (c j : Nat) (h : j < 64) : (n64 (shl64 a c)).testBit j = (decide (c ≤ j) && (n64 a).testBit (j - c)) := by
 rw [n64_shl64, show (18446744073709551616 : Nat) = 2 ^ 64 from rfl, Nat.testBit_mod_two_pow, Nat.testBit_mul_two_pow]; simp [h]
theorem tb_shr8 (a : UInt8) (c j : Nat) : (n8 (shr8 a c)).testBit j = (n8 a).testBit (c + j) := by rw [n8_shr8, Nat.testBit_div_two_pow, Nat.add_comm]
theorem tb_shl8 (a : UInt8) (c j : Nat) (h : j < 8) : (n8 (shl8 a c)).testBit j = (decide (c ≤ j) && (n8 a).testBit (j - c)) := by
 rw [n8_shl8, show (256 : Nat) = 2 ^ 8 from rfl, Nat.testBit_mod_two_pow, Nat.testBit_mul_two_pow]; simp [h]
theorem one64 (a : UInt64) (c : Nat) : (shr64 a c &&& 1 == 1) = (n64 a).testBit c := by
 have e : (shr64 a c &&& 1 == 1) = decide (n64 (shr64 a c &&& 1) = 1) := by
  rw [Bool.eq_iff_iff]; simp only [beq_iff_eq, decide_eq_true_eq]
  exact ⟨fun h => by rw [h]; rfl, fun h => n64_inj h⟩
 rw [e, n64_and, show n64 1 = 1 from rfl, Nat.and_one_is_mod, n64_shr64, Nat.testBit_eq_decide_div_mod_eq]
theorem one8 (a : UInt8) (c : Nat) : (shr8 a c &&& 1 == 1) = (n8 a).testBit c := by
 have e : (shr8 a c &&& 1 == 1) = decide (n8 (shr8 a c &&& 1) = 1) := by
  rw [Bool.eq_iff_iff]; simp only [beq_iff_eq, decide_eq_true_eq]
  exact ⟨fun h => by rw [h]; rfl, fun h => n8_inj h⟩
 rw [e, n8_and, show n8 1 = 1 from rfl, Nat.and_one_is_mod, n8_shr8, Nat.testBit_eq_decide_div_mod_eq]
def bitW (w : Wd) (i : Nat) : Bool := if 64 ≤ i then (n64 w.2).testBit (127 - i) else (n64 w.1).testBit (63 - i)
def bitB (l : List UInt8) (i : Nat) : Bool := (n8 (nth l (i / 8))).testBit (7 - i % 8)
theorem bit_eq (w : Wd) (i : Nat) (h : i < 128) : bit w i = bitW w i := by
 unfold bit bitW
 split
 ·rw [one64]; congr 1; omega
 ·rw [one64]; congr 1; omega
theorem rbit_eq (x : List UInt8) (i : Nat) : rbit x i = bitB x i := one8 _ _
theorem extW {a b : Wd} (h : ∀ i, i < 128 → bitW a i = bitW b i) : a = b := by
 have h1 : a.1 = b.1 := by
  apply n64_inj
  apply Nat.eq_of_testBit_eq
  intro j
  rcases Nat.lt_or_ge j 64 with hj | hj
  ·have := h (63 - j) (by omega)
   unfold bitW at this
   rw [if_neg (by omega), if_neg (by omega), show 63 - (63 - j) = j by omega] at this
   exact this
  ·rw [tb_high64 _ _ hj, tb_high64 _ _ hj]
 have h2 : a.2 = b.2 := by
  apply n64_inj
  apply Nat.eq_of_testBit_eq
  intro j
  rcases Nat.lt_or_ge j 64 with hj | hj
  ·have := h (127 - j) (by omega)
   unfold bitW at this
   rw [if_pos (by omega), if_pos (by omega), show 127 - (127 - j) = j by omega] at this
   exact this
  ·rw [tb_high64 _ _ hj, tb_high64 _ _ hj]
 exact Prod.ext h1 h2
theorem extB {a b : List UInt8} (ha : a.length = 16) (hb : b.length = 16) (h : ∀ i, i < 128 → bitB a i = bitB b i) : a = b := by
 apply ext16 ha hb
 intro q hq
 apply n8_inj
 apply Nat.eq_of_testBit_eq
 intro j
 rcases Nat.lt_or_ge j 8 with hj | hj
 ·have := h (8 * q + (7 - j)) (by omega)
  unfold bitB at this
  rw [show (8 * q + (7 - j)) / 8 = q by omega, show 7 - (8 * q + (7 - j)) % 8 = j by omega] at this
  exact this
 ·rw [tb_high8 _ _ hj, tb_high8 _ _ hj]
theorem bitW_xor (a b : Wd) (i : Nat) : bitW (wxor a b) i = (bitW a i ^^ bitW b i) := by
 unfold bitW wxor
 split <;> simp only [n64_xor, Nat.testBit_xor]
theorem bitB_add (a b : List UInt8) (i : Nat) (h : i < 128) : bitB (add a b) i = (bitB a i ^^ bitB b i) := by
 unfold bitB add
 rw [row16_get (by omega), addF, n8_xor, Nat.testBit_xor]
theorem bitW_zero (i : Nat) : bitW (0, 0) i = false := by
 unfold bitW
 split <;> exact Nat.zero_testBit _
theorem bitB_zero (i : Nat) : bitB (zeros 16) i = false := by
 unfold bitB
 rw [nth_zeros]; exact Nat.zero_testBit _
theorem bitB_blk (w : Wd) (i : Nat) (h : i < 128) : bitB (blk w) i = bitW w i := by
 have low : ∀ (x : UInt64) (t : Nat), t < 8 → (n8 (low8 x)).testBit t = (n64 x).testBit t := fun x t ht => by
  rw [n8_low8, show (256 : Nat) = 2 ^ 8 from rfl, Nat.testBit_mod_two_pow]; simp [ht]
 unfold bitB bitW
 rw [blk_get (by omega), blkF]
 by_cases h8 : i / 8 < 8
 ·rw [if_pos h8, if_neg (by omega), low _ _ (by omega), tb_shr64]; congr 1; omega
 ·rw [if_neg h8, if_pos (by omega), low _ _ (by omega), tb_shr64]; congr 1; omega
theorem ofN_1 (b : List UInt8) : ∀ k, k ≤ 8 → ∀ q t, q < k → t < 8 → (n64 (ofN b k).1).testBit (8 * (k - 1 - q) + t) = (n8 (nth b q)).testBit t
 | 0, _, q, t, hq, _ => by omega
 | k + 1, hk, q, t, hq, ht => by
  simp only [ofN]
  rw [n64_or, Nat.testBit_or, tb_shl64 _ _ _ (by omega), n64_wide]
  by_cases e : q = k
  ·subst e
   rw [show q + 1 - 1 - q = 0 by omega, Nat.mul_zero, Nat.zero_add]
   simp [show ¬ 8 ≤ t by omega]
  ·have ih := ofN_1 b k (by omega) q t (by omega) ht
   rw [tb_high8 _ _ (by omega : 8 ≤ 8 * (k + 1 - 1 - q) + t), ← ih, show 8 * (k + 1 - 1 - q) + t - 8 = 8 * (k - 1 - q) + t by omega]
   rw [show decide (8 ≤ 8 * (k + 1 - 1 - q) + t) = true from decide_eq_true (by omega), Bool.true_and, Bool.or_false]
theorem ofN_2 (b : List UInt8) : ∀ k, k ≤ 8 → ∀ q t, q < k → t < 8 → (n64 (ofN b k).2).testBit (8 * (k - 1 - q) + t) = (n8 (nth b (8 + q))).testBit t
 | 0, _, q, t, hq, _ => by omega
 | k + 1, hk, q, t, hq, ht => by
  simp only [ofN]
  rw [n64_or, Nat.testBit_or, tb_shl64 _ _ _ (by omega), n64_wide]
  by_cases e : q = k
  ·subst e
   rw [show q + 1 - 1 - q = 0 by omega, Nat.mul_zero, Nat.zero_add]
   simp [show ¬ 8 ≤ t by omega]
  ·have ih := ofN_2 b k (by omega) q t (by omega) ht
   rw [tb_high8 _ _ (by omega : 8 ≤ 8 * (k + 1 - 1 - q) + t), ← ih, show 8 * (k + 1 - 1 - q) + t - 8 = 8 * (k - 1 - q) + t by omega]
   rw [show decide (8 ≤ 8 * (k + 1 - 1 - q) + t) = true from decide_eq_true (by omega), Bool.true_and, Bool.or_false]
theorem bitW_wof (b : List UInt8) (i : Nat) (h : i < 128) : bitW (wof b) i = bitB b i := by
 unfold bitW bitB wof
 split
 ·have := ofN_2 b 8 (by omega) (i / 8 - 8) (7 - i % 8) (by omega) (by omega)
  rw [show 8 + (i / 8 - 8) = i / 8 by omega] at this
  rw [← this]; congr 1; omega
 ·have := ofN_1 b 8 (by omega) (i / 8) (7 - i % 8) (by omega) (by omega)
  rw [← this]; congr 1; omega
theorem wof_blk (w : Wd) : wof (blk w) = w := extW fun i hi => by rw [bitW_wof _ _ hi, bitB_blk _ _ hi]
theorem blk_zero : blk (0, 0) = zeros 16 := extB (blk_length _) (zeros_length _) fun i hi => by rw [bitB_blk _ _ hi, bitW_zero, bitB_zero]
theorem wof_add (a b : List UInt8) : wof (add a b) = wxor (wof a) (wof b) := extW fun i hi => by rw [bitW_wof _ _ hi, bitB_add _ _ _ hi, bitW_xor, bitW_wof _ _ hi, bitW_wof _ _ hi]
def red (i : Nat) : Bool := i == 0 || i == 1 || i == 2 || i == 7
theorem poly_bits : ∀ j, j < 64 → (n64 poly).testBit j = red (63 - j) := by decide +kernel
theorem and_one (a : UInt64) : a &&& 1 = if (n64 a).testBit 0 then 1 else 0 := by
 apply n64_inj
 rw [n64_and, show n64 1 = 1 from rfl, Nat.and_one_is_mod, Nat.testBit_zero]
 rcases Nat.mod_two_eq_zero_or_one (n64 a) with h | h <;> simp [h] <;> rfl
theorem bitW_mulX (y : Wd) (i : Nat) (h : i < 128) : bitW (mulX y) i = ((if i = 0 then false else bitW y (i - 1)) ^^ (bitW y 127 && red i)) := by
 have h127 : bitW y 127 = (n64 y.2).testBit 0 := rfl
 rw [h127]
 unfold mulX
 by_cases h64 : 64 ≤ i
 ·have hr : red i = false := by unfold red; simp; omega
  rw [hr, Bool.and_false, Bool.xor_false, if_neg (by omega)]
  unfold bitW
  rw [if_pos h64]
  simp only
  rw [n64_or, Nat.testBit_or, tb_shr64, tb_shl64 _ _ _ (by omega)]
  by_cases e : i = 64
  ·subst e; simp [tb_high64]
  ·rw [if_pos (by omega), show 1 + (127 - i) = 127 - (i - 1) by omega]
   simp [show ¬ 63 ≤ 127 - i by omega]
 ·have e1 : (n64 ((y.2 &&& 1) * poly)).testBit (63 - i) = ((n64 y.2).testBit 0 && red i) := by
   rw [and_one]
   cases (n64 y.2).testBit 0
   ·have : (0 : UInt64) * poly = 0 := by decide +kernel
    simp [this, n64]
   ·have : (1 : UInt64) * poly = poly := by decide +kernel
    simp [this, poly_bits (63 - i) (by omega), show 63 - (63 - i) = i by omega]
  unfold bitW
  rw [if_neg h64]
  simp only
  rw [n64_xor, Nat.testBit_xor, e1, tb_shr64]
  congr 1
  by_cases e : i = 0
  ·subst e; rw [if_pos rfl]; exact tb_high64 _ _ (by omega)
  ·rw [if_neg e, if_neg (by omega)]; congr 1; omega
theorem bitB_rmul (v : List UInt8) (i : Nat) (h : i < 128) : bitB (rmul v) i = ((if i = 0 then false else bitB v (i - 1)) ^^ (bitB v 127 && red i)) := by
 have h127 : bitB v 127 = (nth v 15 &&& 1 == 1) := by
  have := one8 (nth v 15) 0
  have e : shr8 (nth v 15) 0 = nth v 15 := by apply n8_inj; rw [n8_shr8]; simp
  rw [e] at this
  rw [this]; rfl
 unfold bitB at *
 rw [rmul_get (by omega), rmulF]
 by_cases h8 : i / 8 = 0
 ·rw [if_pos h8, h127]
  have sh : (n8 (shr8 (nth v 0) 1)).testBit (7 - i % 8) = (if i = 0 then false else (n8 (nth v ((i - 1) / 8))).testBit (7 - (i - 1) % 8)) := by
   rw [tb_shr8]
   by_cases e : i = 0
   ·subst e; rw [if_pos rfl]; exact tb_high8 _ _ (by omega)
   ·rw [if_neg e, show (i - 1) / 8 = 0 by omega]; congr 1; omega
  cases hb : (nth v 15 &&& 1 == 1)
  ·simp [sh]
  ·have pol : ∀ t, t < 8 → (n8 225).testBit t = red (7 - t) := by decide +kernel
   simp only [if_true, n8_xor, Nat.testBit_xor, sh, Bool.true_and]
   congr 1
   rw [pol _ (by omega)]; congr 1; omega
 ·have hr : red i = false := by unfold red; simp; omega
  rw [if_neg h8, hr, Bool.and_false, Bool.xor_false, if_neg (by omega), rmulT, n8_or, Nat.testBit_or, tb_shr8, tb_shl8 _ _ _ (by omega)]
  by_cases e : i % 8 = 0
  ·rw [e, tb_high8 _ _ (by omega : 8 ≤ 1 + (7 - 0)), show (i - 1) / 8 = i / 8 - 1 by omega, show 7 - (i - 1) % 8 = 0 by omega]
   simp
  ·rw [show (i - 1) / 8 = i / 8 by omega, show 1 + (7 - i % 8) = 7 - (i - 1) % 8 by omega]
   simp [show ¬ 7 ≤ 7 - i % 8 by omega]
def Corr (b : List UInt8) (w : Wd) : Prop := ∀ i, i < 128 → bitB b i = bitW w i
theorem Corr.step {z v x : List UInt8} {Z V X : Wd} {n : Nat} (hn : n < 128) (hz : Corr z Z) (hv : Corr v V) (hx : Corr x X) : Corr (rstep x n (z, v)).1 (gstep X n (Z, V)).1 ∧ Corr (rstep x n (z, v)).2 (gstep X n (Z, V)).2 := by
 refine ⟨?_, fun i hi => ?_⟩
 ·intro i hi
  simp only [rstep, gstep]
  rw [bit_eq _ _ hn, rbit_eq, hx n hn]
  cases bitW X n
  ·exact hz i hi
  ·simp only [if_true]
   rw [bitB_add _ _ _ hi, bitW_xor, hz i hi, hv i hi]
 ·simp only [rstep, gstep]
  rw [bitB_rmul _ _ hi, bitW_mulX _ _ hi, hv 127 (by omega)]
  by_cases e : i = 0
  ·simp [e]
  ·rw [if_neg e, if_neg e, hv (i - 1) (by omega)]
theorem corr_wof (b : List UInt8) : Corr b (wof b) := fun i hi => (bitW_wof b i hi).symm
theorem corr_run (x y : List UInt8) : ∀ n, n ≤ 128 → Corr (rrun x y n).1 (grun (wof x) (wof y) n).1 ∧ Corr (rrun x y n).2 (grun (wof x) (wof y) n).2
 | 0, _ => ⟨fun i _ => by simp only [rrun, grun]; rw [bitB_zero, bitW_zero], corr_wof y⟩
 | n + 1, hn => by
  have ih := corr_run x y n (by omega)
  exact Corr.step (by omega) ih.1 ih.2 (corr_wof x)
theorem rtimes_eq (x y : List UInt8) (hy : y.length = 16) : rtimes x y = times x y :=
 extB (rrun_length x y hy 128).1 (blk_length _) fun i hi => by
  unfold times timesW
  rw [bitB_blk _ _ hi]
  exact (corr_run x y 128 (by omega)).1 i hi
def eK : Nat → Wd
 | 0 => (UInt64.ofNat 9223372036854775808, 0)
 | k + 1 => mulX (eK k)
def part (w : Wd) : Nat → Wd
 | 0 => (0, 0)
 | n + 1 => if bitW w n then wxor (part w n) (eK n) else part w n
end Gcm

end
section
namespace Go.Proofs.Ytjlpppnpdgenfaa
open Go.RowKit Go.Rw Aes Gcm
attribute [local go_sem ↓] ld16 st16 al16 shift_shl8 shift_shr8 bvs_getElem?
attribute [local go_sem] rld16 rst16 ral16 setRow_alloc_at setRow_alloc_past setRow_drew bvs_setn
def mixF (z p : List UInt8) (k i : Nat) : UInt8 := nth z i ^^^ nth p (k + i)
theorem mix_end (z p : List UInt8) (k j : Nat) (hz : z.length = 16) (hj : 16 ≤ j ∨ p.length ≤ k + j) : upto (mixF z p k) z 16 j = row16 (mixF z p k) := by
 apply ext16 (n := 16) (upto_length ..) (row16_length _)
 intro i hi
 rw [upto_get hi, row16_get hi]
 split
 ·rfl
 ·rename_i h
  have : nth p (k + i) = 0 := by unfold nth; rw [List.getElem?_eq_none (by omega)]; rfl
  rw [mixF, this, UInt8.xor_zero]
theorem mix_add (z p : List UInt8) (q : Nat) : row16 (mixF z p (16 * q)) = add z (padAt p q) := by
 apply ext16 (n := 16) (row16_length _) (add_length _ _)
 intro i hi
 rw [row16_get hi]
 show _ = nth (row16 (addF z (padAt p q))) i
 rw [row16_get hi, addF, padAt_get hi]; rfl
theorem hash_step (h : List UInt8) (hh : h.length = 16) (Y : Wd) (p : List UInt8) (q : Nat) : rtimes (add (blk Y) (padAt p q)) h = blk (timesW (wxor Y (wof (padAt p q))) (wof h)) := by
 rw [rtimes_eq _ _ hh, Gcm.times, wof_add, wof_blk]
theorem part_step (key Y : Wd) (p : List UInt8) (q : Nat) (h : 16 * q < p.length) : hashPart key Y (p.drop (16 * q)) = hashPart key (timesW (wxor Y (wof (padAt p q))) key) (p.drop (16 * (q + 1))) := by
 rw [hashPart_step _ _ _ (by rw [List.length_drop]; omega), List.drop_drop, show 16 * q + 16 = 16 * (q + 1) by omega]
 congr 4
 apply ext16 (n := 16) (padAt_length _ _) (padAt_length _ _)
 intro j hj
 rw [padAt_get hj, padAt_get hj, nth_drop]; congr 1; omega
set_option maxRecDepth 100000 in
set_option maxHeartbeats 4000000 in
theorem rhash_any (h : List UInt8) (hh : h.length = 16) (ps : List (List UInt8)) (hps : ps.length ≤ 1000000) (hpl : ∀ p ∈ ps, p.length ≤ 1000000) (v : Value) (w : World) (hP : Pts w v ps) :
  Calls Try.prog 80 #[.agg (bvs h), v] w fun e w' => e = .returned (.agg (bvs (Gcm.hash h ps))) ∧ Below w.heap.size w w' := by
 obtain ⟨ao, cap, rfl, hp⟩ := hP
 go_enter Try.func80, Try.ntmps80
 go_wp2_with fail
 go_loopw [6] (fun v wr => ∃ k : Nat, k ≤ ps.length ∧ v = .int .i64 k ∧ row? wr w.heap.size = some (bvs h) ∧ row? wr (w.heap.size + 1) = some (bvs (zeros 16)) ∧ row? wr (w.heap.size + 2) = some (bvs (blk (hashParts (wof h) (ps.take k)))) ∧ Below w.heap.size w wr) (fun v _ => ps.length - (intOf v).toNat)
 case atStart => exact ⟨0, by omega, rfl, by simp [go_sem], by simp [go_sem], by rw [List.take_zero, show hashParts (wof h) [] = (0, 0) from rfl, blk_zero]; simp [go_sem], ((bel2a _ _ _).alloc (by simp; omega) _)⟩
 case round =>
  obtain ⟨k, hk, rfl, h0, h1, h2, hb⟩ := hrel
  by_cases hlt : k < ps.length
  ·obtain ⟨b, off, rfl, hc⟩ := hp (by omega)
   obtain ⟨u, hu, hs⟩ := hc k hlt
   have E := Lib.hid (hashParts_step (wof h) ps k hlt)
   have hpk : (ps.getD k []).length ≤ 1000000 := hpl _ (by rw [List.getD_eq_getElem?_getD, List.getElem?_eq_getElem hlt]; exact List.getElem_mem hlt)
   generalize hashParts (wof h) (ps.take k) = y0 at h2 E
   generalize ps.getD k [] = p at hs E hpk
   obtain ⟨aop, capp, rfl, hcp, hnp, hpp⟩ := hs
   have H0 := Lib.hid h0
   have H1 := Lib.hid h1
   have H2 := Lib.hid h2
   have HU := Lib.hid hu
   have HC := Lib.hid hc
   clear hu hc h0 h1 h2
   go_wp2_with fail
   go_loopw [7] (fun v wr => ∃ q m Y, m = 16 * q ∧ v = .int .i64 (m : Nat) ∧ m < p.length + 16 ∧ row? wr w.heap.size = some (bvs h) ∧ row? wr (w.heap.size + 1) = some (bvs (zeros 16)) ∧ row? wr (w.heap.size + 2) = some (bvs (blk Y)) ∧ hashPart (wof h) Y (p.drop (16 * q)) = hashPart (wof h) y0 p ∧ Below w.heap.size w wr) (fun v _ => p.length + 16 - (intOf v).toNat)
   case atStart => exact ⟨0, 0, y0, rfl, rfl, by omega, H0.out, H1.out, H2.out, rfl, hb⟩
   case round =>
    obtain ⟨q, m, Y, hm, rfl, hq, h0, h1, h2, he, hbq⟩ := hrel
    have HM := Lib.hid hm
    have HE := Lib.hid he
    have G0 := Lib.hid h0
    have G1 := Lib.hid h1
    have G2 := Lib.hid h2
    clear he h0 h1 h2 H0 H1 H2
    have hcell := below_cell hbq HU.out (cell_lt HU.out)
    by_cases hq2 : m < p.length
    ·have PS := Lib.hid (part_step (wof h) Y p q (by omega))
     obtain ⟨bp, offp, rfl, hcc⟩ := hpp (by omega)
     have HCC := Lib.hid hcc
     clear hm hcc
     go_wp2_with fail
     go_loopw [8] (fun v wr => ∃ j : Nat, j ≤ 16 ∧ m + j ≤ p.length ∧ v = .int .i64 j ∧ row? wr w.heap.size = some (bvs h) ∧ row? wr (w.heap.size + 1) = some (bvs (zeros 16)) ∧ row? wr (w.heap.size + 2) = some (bvs (upto (mixF (blk Y) p m) (blk Y) 16 j)) ∧ Below w.heap.size w wr) (fun v _ => 16 - (intOf v).toNat)
     case atStart => exact ⟨0, by omega, by omega, rfl, G0.out, G1.out, by rw [upto_zero _ _ _ (blk_length _)]; exact G2.out, hbq⟩
     case round =>
      obtain ⟨j, hj, hjm, rfl, h0, h1, h2, hbj⟩ := hrel
      clear hcell
      have hcell := below_cell hbj HU.out (cell_lt HU.out)
      by_cases hj16 : j < 16
      ·by_cases hjp : m + j < p.length
       ·have g := upto_set (mixF (blk Y) p m) (blk Y) 16 j hj16
        have ghi := upto_hi (f := mixF (blk Y) p m) (z := blk Y) hj16 (Nat.le_refl j)
        have G := Lib.hid g; clear g
        have hck := below_cell hbj (HCC.out (m + j) hjp) (cell_lt (HCC.out (m + j) hjp))
        have H0 := Lib.hid h0
        have H1 := Lib.hid h1
        have H2 := Lib.hid h2
        have c2 := row?_cell h2
        have f2 := row?_frozen h2
        clear h0 h1 h2
        go_wp2_with fail
        refine Rg.wp_region_plan (Rg.row [(0, 3), (1, 3), (2, 3), (3, 0), (4, 3), (5, 3), (6, 3), (7, 0), (8, 3), (9, 3), (10, 3), (11, 3), (12, 0), (13, 3), (14, 3)] [15]) [15] (by kernel_rfl) (by kernel_rfl) ?_
        simp only [Rg.row, Rg.PT.map, List.map_cons, List.map_nil, List.getD_cons_zero, List.getD_cons_succ]
        go_wp2_with (first
         |(with_reducible refine Rg.plan_pure ?_ ?_ ?_); kernel_rfl; kernel_rfl; intro _ _|(with_reducible refine Rg.plan_take ?_ ?_ ?_); kernel_rfl; kernel_rfl; intro _ _|(with_reducible refine Rg.plan_keep ?_ ?_); kernel_rfl; intro K hK|refine hK _ _ (Rg.Keep.refl _) ?_; clear hK|refine hK _ _ (Rg.Keep.of_below (by assumption)) ?_; clear hK|(with_reducible refine Rg.plan_skip ?_ ?_); kernel_rfl|(with_reducible refine Rg.plan_done ?_)|(with_reducible refine Rg.calm_normal ?_))
        go_roundw
        case rel =>
         refine ⟨j + 1, by omega, by omega, by go_num, ?_, ?_, ?_, (hbj.setCell (by simp <;> omega) _).drew⟩
         ·rw [row?_drew, row?_setCell_ne _ _ _ _ (by simp <;> omega)]; exact H0.out
         ·rw [row?_drew, row?_setCell_ne _ _ _ _ (by simp <;> omega)]; exact H1.out
         ·rw [row?_drew, row?_setCell_eq H2.out, bvs_setn]; exact congrArg (fun l => some (bvs l)) G.out
        case measure => simp [intOf]; omega
       ·have HX := Lib.hid hjp
        have HY := Lib.hid hj16
        rw [mix_end _ _ _ _ (blk_length _) (by omega)] at h2
        have hmx : row16 (mixF (blk Y) p m) = add (blk Y) (padAt p q) := by rw [HM.out]; exact mix_add _ _ _
        rw [hmx] at h2
        have H0 := Lib.hid h0
        have H1 := Lib.hid h1
        clear h1 HX HY
        go_wp2_with fail
        refine (rtimes_any (add (blk Y) (padAt p q)) h (add_length _ _) hh _).mono ?_
        rintro e wA ⟨rfl, hA⟩
        have q2 := row?_lt h2
        have g0 : row? wA w.heap.size = some (bvs h) := by rw [row?_below hA (by omega)]; exact H0.out
        have g1 : row? wA (w.heap.size + 1) = some (bvs (zeros 16)) := by rw [row?_below hA (by omega)]; exact H1.out
        have g2 : row? wA (w.heap.size + 2) = some (bvs (add (blk Y) (padAt p q))) := by rw [row?_below hA q2]; exact h2
        have gb : Below w.heap.size w wA := hbj.trans (hA.mono hbj.size)
        have hst := hash_step h hh Y p q
        have hln : (rtimes (add (blk Y) (padAt p q)) h).length = 16 := by rw [hst]; exact blk_length _
        have G0 := Lib.hid g0
        have G1 := Lib.hid g1
        have ST := Lib.hid hst
        clear h0 h2 hA g0 g1 hst
        go_wp2_with fail
        go_roundw
        case rel =>
         refine ⟨q + 1, m + 16, timesW (wxor Y (wof (padAt p q))) (wof h), by have := HM.out; omega, by go_num, by have := HM.out; omega, ?_, ?_, ?_, ?_, below_setRow gb (by omega) _⟩
         ·rw [row?_setRow_ne _ _ _ _ (by omega)]; exact G0.out
         ·rw [row?_setRow_ne _ _ _ _ (by omega)]; exact G1.out
         ·rw [← ST.out]; exact row?_setRow_eq g2
         ·rw [← PS.out]; exact HE.out
        case measure => simp [intOf]; omega
      ·have HX := Lib.hid hj16
       have HY := HX
       rw [mix_end _ _ _ _ (blk_length _) (by omega)] at h2
       have hmx : row16 (mixF (blk Y) p m) = add (blk Y) (padAt p q) := by rw [HM.out]; exact mix_add _ _ _
       rw [hmx] at h2
       have H0 := Lib.hid h0
       have H1 := Lib.hid h1
       clear h1 HX HY
       go_wp2_with fail
       refine (rtimes_any (add (blk Y) (padAt p q)) h (add_length _ _) hh _).mono ?_
       rintro e wA ⟨rfl, hA⟩
       have q2 := row?_lt h2
       have g0 : row? wA w.heap.size = some (bvs h) := by rw [row?_below hA (by omega)]; exact H0.out
       have g1 : row? wA (w.heap.size + 1) = some (bvs (zeros 16)) := by rw [row?_below hA (by omega)]; exact H1.out
       have g2 : row? wA (w.heap.size + 2) = some (bvs (add (blk Y) (padAt p q))) := by rw [row?_below hA q2]; exact h2
       have gb : Below w.heap.size w wA := hbj.trans (hA.mono hbj.size)
       have hst := hash_step h hh Y p q
       have hln : (rtimes (add (blk Y) (padAt p q)) h).length = 16 := by rw [hst]; exact blk_length _
       have G0 := Lib.hid g0
       have G1 := Lib.hid g1
       have ST := Lib.hid hst
       clear h0 h2 hA g0 g1 hst
       go_wp2_with fail
       go_roundw
       case rel =>
        refine ⟨q + 1, m + 16, timesW (wxor Y (wof (padAt p q))) (wof h), by have := HM.out; omega, by go_num, by have := HM.out; omega, ?_, ?_, ?_, ?_, below_setRow gb (by omega) _⟩
        ·rw [row?_setRow_ne _ _ _ _ (by omega)]; exact G0.out
        ·rw [row?_setRow_ne _ _ _ _ (by omega)]; exact G1.out
        ·rw [← ST.out]; exact row?_setRow_eq g2
        ·rw [← PS.out]; exact HE.out
       case measure => simp [intOf]; omega
    ·have hd : p.drop (16 * q) = [] := List.drop_eq_nil_of_le (by omega)
     have he2 := HE.out
     rw [hd, hashPart_nil] at he2
     have E2 := Lib.hid he2
     clear hm he2 hd hpp
     go_wp2_with fail
     go_roundw
     case rel =>
      refine ⟨k + 1, by omega, by go_num, G0.out, G1.out, ?_, hbq⟩
      rw [E.out, ← E2.out]; exact G2.out
     case measure => simp [intOf]; omega
  ·obtain rfl : k = ps.length := by omega
   rw [List.take_length] at h2
   have hl2 := blk_length (hashParts (wof h) ps)
   go_wp2_with fail
   have zl := hb.size
   exact ret16 (w.heap.size + 1) (bvs (Gcm.hash h ps)) rfl rfl rfl (row?_setRow_eq h1) (by rw [bvs_size]; exact hash_length _ _) ⟨rfl, below_setRow hb (by omega) _⟩
end Go.Proofs.Ytjlpppnpdgenfaa

end
