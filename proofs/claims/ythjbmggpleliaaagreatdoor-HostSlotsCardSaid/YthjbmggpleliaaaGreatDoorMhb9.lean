/- AesR1; AesR2; AesR3; AesR4; GcmRM; GcmR1. -/
import Derived.Test.YthjbmggpleliaaaGreatDoorMhb7
import Derived.Test.YthjbmggpleliaaaGreatDoorMhb5
section
section


end
section


end
section


end
section
namespace Aes
open Go.Rw
def cipher (key : List UInt8) : List UInt8 := keys key ++ boxTab
theorem cipher_length (key) : (cipher key).length = 432 := by rw [cipher, List.length_append, keys_length, boxTab_length]
end Aes
namespace Go.Proofs.YthjbmggpleliaaaGreatDoor
open Go.RowKit Go.Rw Aes
attribute [local go_sem ↓] ld16 st16 al16 ld176 st176 al176 shift_shl8 shift_shr8 bvs_getElem?
attribute [local go_sem] rst16p rld16p rld16 rst16 ral16 rld176 rst176 ral176 setRow_alloc_at setRow_alloc_past setRow_drew bvs_setn cipher_length
end Go.Proofs.YthjbmggpleliaaaGreatDoor

end

end
section
section
namespace Gcm
open Go.Rw Aes
def rbit (x : List UInt8) (i : Nat) : Bool := shr8 (nth x (i / 8)) (7 - i % 8) &&& 1 == 1
def rmulT (v : List UInt8) (k : Nat) : UInt8 := shr8 (nth v k) 1 ||| shl8 (nth v (k - 1)) 7
def rmulF (v : List UInt8) (k : Nat) : UInt8 := if k = 0 then (if nth v 15 &&& 1 == 1 then shr8 (nth v 0) 1 ^^^ 225 else shr8 (nth v 0) 1) else rmulT v k
def rmul (v : List UInt8) : List UInt8 := row16 (rmulF v)
@[go_sem] theorem rmul_length (v) : (rmul v).length = 16 := row16_length _
theorem rmul_get {v : List UInt8} {j : Nat} (h : j < 16) : nth (rmul v) j = rmulF v j := row16_get h
def rstep (x : List UInt8) (i : Nat) (s : List UInt8 × List UInt8) : List UInt8 × List UInt8 := (if rbit x i then add s.1 s.2 else s.1, rmul s.2)
def dnF (v : List UInt8) (k j : Nat) : UInt8 := if k < j then rmulT v j else nth v j
def dn (v : List UInt8) (k : Nat) : List UInt8 := row16 (dnF v k)
@[go_sem] theorem dn_length (v k) : (dn v k).length = 16 := row16_length _
end Gcm

end
section


end

end
