/- The document's product, byte by byte. No program in sight. -/
import Derived.Test.YtdfblojnkchpdaaGcmM
namespace Gcm
open Go.Rw Aes
def rbit (x : List UInt8) (i : Nat) : Bool := shr8 (nth x (i / 8)) (7 - i % 8) &&& 1 == 1
def rmulT (v : List UInt8) (k : Nat) : UInt8 := shr8 (nth v k) 1 ||| shl8 (nth v (k - 1)) 7
def rmulF (v : List UInt8) (k : Nat) : UInt8 := if k = 0 then (if nth v 15 &&& 1 == 1 then shr8 (nth v 0) 1 ^^^ 225 else shr8 (nth v 0) 1) else rmulT v k
def rmul (v : List UInt8) : List UInt8 := row16 (rmulF v)
@[go_sem] theorem rmul_length (v) : (rmul v).length = 16 := row16_length _
theorem rmul_get {v : List UInt8} {j : Nat} (h : j < 16) : nth (rmul v) j = rmulF v j := row16_get h
def rstep (x : List UInt8) (i : Nat) (s : List UInt8 × List UInt8) : List UInt8 × List UInt8 := (if rbit x i then add s.1 s.2 else s.1, rmul s.2)
def rrun (x y : List UInt8) : Nat → List UInt8 × List UInt8
  | 0 => (zeros 16, y)
  | n + 1 => rstep x n (rrun x y n)
def rtimes (x y : List UInt8) : List UInt8 := (rrun x y 128).1
theorem rrun_length (x y : List UInt8) (hy : y.length = 16) : ∀ n, (rrun x y n).1.length = 16 ∧ (rrun x y n).2.length = 16
  | 0 => ⟨zeros_length _, hy⟩
  | n + 1 => by
    have ih := rrun_length x y hy n
    refine ⟨?_, row16_length _⟩
    simp only [rrun, rstep]
    split
    · exact add_length _ _
    · exact ih.1
/-- From above down to k. -/
def dnF (v : List UInt8) (k j : Nat) : UInt8 := if k < j then rmulT v j else nth v j
def dn (v : List UInt8) (k : Nat) : List UInt8 := row16 (dnF v k)
@[go_sem] theorem dn_length (v k) : (dn v k).length = 16 := row16_length _
theorem dn_get {v : List UInt8} {k j : Nat} (h : j < 16) : nth (dn v k) j = if k < j then rmulT v j else nth v j := row16_get h
theorem dn_full (v : List UInt8) (hv : v.length = 16) : dn v 15 = v := by
  apply ext16 (n := 16) (dn_length _ _) hv
  intro j hj
  rw [dn_get hj, if_neg (by omega)]
theorem dn_set (v : List UInt8) (k : Nat) (hk : k + 1 < 16) : (dn v (k + 1)).set (k + 1) (shr8 (nth (dn v (k + 1)) (k + 1)) 1 ||| shl8 (nth (dn v (k + 1)) k) 7) = dn v k := by
  apply ext16 (n := 16) (by simp [dn_length]) (dn_length _ _)
  intro j hj
  have e1 : nth (dn v (k + 1)) (k + 1) = nth v (k + 1) := by rw [dn_get hk, if_neg (Nat.lt_irrefl _)]
  have e2 : nth (dn v (k + 1)) k = nth v k := by rw [dn_get (by omega), if_neg (by omega)]
  rw [set_get _ _ _ _ (by rw [dn_length]; exact hk), e1, e2, dn_get hj, dn_get hj]
  by_cases e : k + 1 = j
  · subst e; rw [if_pos rfl, if_pos (by omega)]; rfl
  · rw [if_neg e]
    by_cases h : k + 1 < j
    · rw [if_pos h, if_pos (by omega)]
    · rw [if_neg h, if_neg (by omega)]
theorem dn_zero (v : List UInt8) : nth (dn v 0) 0 = nth v 0 := by rw [dn_get (by omega), if_neg (by omega)]
theorem rmul_plain (v : List UInt8) (h : (nth v 15 &&& 1 == 1) = false) : (dn v 0).set 0 (shr8 (nth v 0) 1) = rmul v := by
  apply ext16 (n := 16) (by simp [dn_length]) (rmul_length _)
  intro j hj
  rw [set_get _ _ _ _ (by rw [dn_length]; omega), dn_get hj, rmul_get hj, rmulF, h]
  by_cases e : 0 = j
  · subst e; simp
  · rw [if_neg e, if_pos (by omega), if_neg (fun x => e x.symm)]
theorem rmul_poly (v : List UInt8) (h : (nth v 15 &&& 1 == 1) = true) : ((dn v 0).set 0 (shr8 (nth v 0) 1)).set 0 (shr8 (nth v 0) 1 ^^^ 225) = rmul v := by
  apply ext16 (n := 16) (by simp [dn_length]) (rmul_length _)
  intro j hj
  rw [set_get _ _ _ _ (by rw [List.length_set, dn_length]; omega), set_get _ _ _ _ (by rw [dn_length]; omega), dn_get hj, rmul_get hj, rmulF, h]
  by_cases e : 0 = j
  · subst e; simp
  · rw [if_neg e, if_neg e, if_pos (by omega), if_neg (fun x => e x.symm)]
theorem ctr_sets (nonce : List UInt8) (n : Nat) (hn : nonce.length = 12) :
    ((((nonce ++ zeros 4).set 12 (byteOf n 24)).set 13 (byteOf n 16)).set 14 (byteOf n 8)).set 15 (byteOf n 0) = ctr nonce n := by
  apply ext16 (n := 16) (by simp [hn, zeros]) (ctr_length _ _)
  intro i hi
  have hl : (nonce ++ zeros 4).length = 16 := by simp [hn, zeros]
  have hc : nth (ctr nonce n) i = ctrF nonce n i := row16_get hi
  rw [set_get _ _ _ _ (by simp [hl]), set_get _ _ _ _ (by simp [hl]), set_get _ _ _ _ (by simp [hl]), set_get _ _ _ _ (by simp [hl]), hc, ctrF]
  by_cases h : i < 12
  · rw [if_neg (by omega), if_neg (by omega), if_neg (by omega), if_neg (by omega), if_pos h, nth_append, if_pos (by omega)]
  · rw [if_neg h]
    have : i = 12 ∨ i = 13 ∨ i = 14 ∨ i = 15 := by omega
    rcases this with rfl | rfl | rfl | rfl <;> simp
theorem byte_low (n : Nat) (h : n < 4294967296) : Go.IntKind.u8.wrap ((n : Nat) : Int) = (n8 (byteOf n 0) : Nat) := by
  have e : shr32 n 0 = n := by simp [shr32]
  have := wrap8_byte n 0
  rw [e] at this; exact this
theorem upto_over (f : Nat → UInt8) (z : List UInt8) (n k : Nat) (h : n ≤ k) : upto f z n k = (List.range n).map f := by
  apply ext16 (upto_length ..) (by simp)
  intro i hi
  rw [upto_lo hi (by omega)]; simp [nth, hi]
end Gcm
