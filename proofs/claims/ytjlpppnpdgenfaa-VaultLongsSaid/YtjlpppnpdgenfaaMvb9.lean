/- AesP; AesRM; AesRT. -/
import Derived.Test.YtjlpppnpdgenfaaMvb2
section
namespace Aes
open Go.Rw
theorem all8 {p : UInt8 → Prop} [DecidablePred p] (h : (List.range 256).all (fun n => decide (p (UInt8.ofNat n))) = true) (a : UInt8) : p a := by
 have := List.all_eq_true.1 h (n8 a) (by simpa using n8_lt a)
 rw [ofNat_n8] at this
 simpa using this
theorem n8_xor (a b : UInt8) : n8 (a ^^^ b) = n8 a ^^^ n8 b := UInt8.toNat_xor ..
end Aes

end
section
namespace Aes
open Go.Rw
def tms : Nat → UInt8 → UInt8 → UInt8 → UInt8
 | 0, _, _, c => c
 | f + 1, a, b, c => if b == 0 then c else tms f (double a) (shr8 b 1) (if b &&& 1 == 1 then c ^^^ a else c)
def times (a b : UInt8) : UInt8 := tms 8 a b 0
def affAt (v : UInt8) : Nat → UInt8
 | 0 => 99
 | i + 1 => affAt v i ^^^ (shl8 v i ||| shr8 v (8 - i))
end Aes

end
section
namespace Aes
open Go.Rw
def pw : Nat → UInt8
 | 0 => 1
 | i + 1 => pw i ^^^ double (pw i)
def lgL : Nat → List UInt8
 | 0 => zeros 256
 | i + 1 => (lgL i).set (n8 (pw i)) (UInt8.ofNat i)
@[go_sem] theorem lgL_length : ∀ i, (lgL i).length = 256
 | 0 => zeros_length _
 | i + 1 => by rw [lgL, List.length_set]; exact lgL_length i
def powTab : List UInt8 := [1, 3, 5, 15, 17, 51, 85, 255, 26, 46, 114, 150, 161, 248, 19, 53, 95, 225, 56, 72, 216, 115, 149, 164, 247, 2, 6, 10, 30, 34, 102, 170, 229, 52, 92, 228, 55, 89, 235, 38, 106, 190, 217, 112, 144, 171, 230, 49, 83, 245, 4, 12, 20, 60, 68, 204, 79, 209, 104, 184, 211, 110, 178, 205, 76, 212, 103, 169, 224, 59, 77, 215, 98, 166, 241, 8, 24, 40, 120, 136, 131, 158, 185, 208, 107, 189, 220, 127, 129, 152, 179, 206, 73, 219, 118, 154, 181, 196, 87, 249, 16, 48, 80, 240, 11, 29, 39, 105, 187, 214, 97, 163, 254, 25, 43, 125, 135, 146, 173, 236, 47, 113, 147, 174, 233, 32, 96, 160, 251, 22, 58, 78, 210, 109, 183, 194, 93, 231, 50, 86, 250, 21, 63, 65, 195, 94, 226, 61, 71, 201, 64, 192, 91, 237, 44, 116, 156, 191, 218, 117, 159, 186, 213, 100, 172, 239, 42, 126, 130, 157, 188, 223, 122, 142, 137, 128, 155, 182, 193, 88, 232, 35, 101, 175, 234, 37, 111, 177, 200, 67, 197, 84, 252, 31, 33, 99, 165, 244, 7, 9, 27, 45, 119, 153, 176, 203, 70, 202, 69, 207, 74, 222, 121, 139, 134, 145, 168, 227, 62, 66, 198, 81, 243, 14, 18, 54, 90, 238, 41, 123, 141, 140, 143, 138, 133, 148, 167, 242, 13, 23, 57, 75, 221, 124, 132, 151, 162, 253, 28, 36, 108, 180, 199, 82, 246]
def logTab : List UInt8 := [0, 0, 25, 1, 50, 2, 26, 198, 75, 199, 27, 104, 51, 238, 223, 3, 100, 4, 224, 14, 52, 141, 129, 239, 76, 113, 8, 200, 248, 105, 28, 193, 125, 194, 29, 181, 249, 185, 39, 106, 77, 228, 166, 114, 154, 201, 9, 120, 101, 47, 138, 5, 33, 15, 225, 36, 18, 240, 130, 69, 53, 147, 218, 142, 150, 143, 219, 189, 54, 208, 206, 148, 19, 92, 210, 241, 64, 70, 131, 56, 102, 221, 253, 48, 191, 6, 139, 98, 179, 37, 226, 152, 34, 136, 145, 16, 126, 110, 72, 195, 163, 182, 30, 66, 58, 107, 40, 84, 250, 133, 61, 186, 43, 121, 10, 21, 155, 159, 94, 202, 78, 212, 172, 229, 243, 115, 167, 87, 175, 88, 168, 80, 244, 234, 214, 116, 79, 174, 233, 213, 231, 230, 173, 232, 44, 215, 117, 122, 235, 22, 11, 245, 89, 203, 95, 176, 156, 169, 81, 160, 127, 12, 246, 111, 23, 196, 73, 236, 216, 67, 31, 45, 164, 118, 123, 183, 204, 187, 62, 90, 251, 96, 177, 134, 59, 82, 161, 108, 170, 85, 41, 157, 151, 178, 135, 144, 97, 190, 220, 252, 188, 149, 207, 205, 55, 63, 91, 209, 83, 57, 132, 60, 65, 162, 109, 71, 20, 42, 158, 93, 86, 242, 211, 171, 68, 17, 146, 217, 35, 32, 46, 137, 180, 124, 184, 38, 119, 153, 227, 165, 103, 74, 237, 222, 197, 49, 254, 24, 13, 99, 140, 128, 192, 247, 112, 7]
theorem lgL_tab : lgL 255 = logTab := by decide +kernel
def pows : Nat → UInt8 → List UInt8
 | 0, _ => []
 | n + 1, x => x :: pows n (x ^^^ double x)
theorem pows_get : ∀ (n i k : Nat), i < n → nth (pows n (pw k)) i = pw (k + i)
 | 0, _, _, h => by omega
 | n + 1, 0, k, _ => rfl
 | n + 1, i + 1, k, h => by
  have := pows_get n i (k + 1) (by omega)
  rw [show k + (i + 1) = k + 1 + i by omega, ← this]; rfl
theorem pow_tab : pows 255 1 = powTab := by decide +kernel
theorem pw_get (i : Nat) (h : i < 255) : pw i = nth powTab i := by
 have := pows_get 255 i 0 h
 rw [← pow_tab, show (1 : UInt8) = pw 0 from rfl, this, Nat.zero_add]
def invOf (b : Nat) : UInt8 := if b = 0 then 0 else pw ((255 - n8 (nth (lgL 255) b)) % 255)
theorem out_all : (List.range 256).all (fun b => affAt (if b = 0 then 0 else nth powTab ((255 - n8 (nth logTab b)) % 255)) 5 == nth boxTab b) = true := by decide +kernel
theorem out_eq (b : Nat) (h : b < 256) : affAt (invOf b) 5 = nth boxTab b := by
 have := List.all_eq_true.1 out_all b (by simpa using h)
 unfold invOf
 rw [lgL_tab, pw_get _ (Nat.mod_lt _ (by omega))]
 simpa using this
end Aes

end
