/- HdrG; HdrG2. -/
import Derived.Test.YthjbmggpleliaaaGreatDoorMhb14
section
namespace Hdr
open Go.Rw
structure Hd where
 long : Bool
 kind : Int
 ver : Nat
 dst : List UInt8
 src : List UInt8
 tok : List UInt8
 spin : Bool
 phase : Bool
 num : Nat
 nl : Int
def hd0 : Hd := ⟨false, 0, 0, [], [], [], false, false, 0, 0⟩
def vmany (c : UInt8) : Nat := 2 ^ (n8 c / 64)
def vnum (l : List UInt8) : Nat := ((l.take (vmany (nth l 0))).drop 1).foldl (fun n c => n * 256 + n8 c) (n8 (nth l 0) % 64)
def vget (l : List UInt8) : Nat × Nat × Int := if l.length = 0 ∨ l.length < vmany (nth l 0) then (0, 0, 3) else (vnum l, vmany (nth l 0), 0)
def rvar (b : List UInt8) (s : Nat × Int) : (Nat × Int) × Nat :=
 if s.2 ≠ 0 then (s, 0) else ((s.1 + (vget (b.drop s.1)).2.1, (vget (b.drop s.1)).2.2), (vget (b.drop s.1)).1)
def rid (b : List UInt8) (least most : Nat) (s : Nat × Int) : (Nat × Int) × List UInt8 :=
 rtake b (rnum b 1 s).2 (rfail (decide ((rnum b 1 s).2 < least) || decide (most < (rnum b 1 s).2)) 5 (rnum b 1 s).1)
def aKind (kind : Int) (s : Nat × Int) : Nat × Int := rfail (decide (kind ≠ 0) && decide (kind ≠ 2)) 5 s
def aVer (b : List UInt8) (kind : Int) (s : Nat × Int) := rnum b 4 (aKind kind s)
def aDst (b : List UInt8) (kind : Int) (s : Nat × Int) := rid b 8 8 (aVer b kind s).1
def aSrc (b : List UInt8) (kind : Int) (s : Nat × Int) := rid b 0 20 (aDst b kind s).1
def aTokN (b : List UInt8) (kind : Int) (s : Nat × Int) := rvar b (aSrc b kind s).1
def aTok (b : List UInt8) (kind : Int) (s : Nat × Int) : (Nat × Int) × List UInt8 :=
 if kind = 0 then rtake b (min (aTokN b kind s).2 100) (rfail (decide (100 < (aTokN b kind s).2)) 5 (aTokN b kind s).1) else ((aSrc b kind s).1, [])
def aRest (b : List UInt8) (kind : Int) (s : Nat × Int) := rvar b (aTok b kind s).1
def lNum (b : List UInt8) (kind : Int) (nl : Nat) (s : Nat × Int) := rnum b nl (rfail (decide ((aRest b kind s).2 < nl)) 5 (aRest b kind s).1)
def lEnd (b : List UInt8) (kind : Int) (nl : Nat) (s : Nat × Int) : (Nat × Int) × Nat :=
 if (lNum b kind nl s).1.2 ≠ 0 then ((lNum b kind nl s).1, 0)
 else (rfail (decide (b.length - (lNum b kind nl s).1.1 < (aRest b kind s).2 - nl)) 3 (lNum b kind nl s).1, min ((aRest b kind s).2 - nl) b.length)
def gByte (b : List UInt8) : UInt8 := UInt8.ofNat (rnum b 1 (0, 0)).2
def gFirst (b : List UInt8) : Nat × Int := rfail (gByte b &&& 64 == 0) 5 (rnum b 1 (0, 0)).1
def gKind (b : List UInt8) : Int := (n8 (gByte b) / 16 % 4 : Nat)
def gNl (b : List UInt8) : Nat := n8 (gByte b &&& 3) + 1
def gShort (b : List UInt8) : (Nat × Int) × List UInt8 := rtake b 8 (rfail (gByte b &&& 24 != 0) 5 (gFirst b))
def gShortN (b : List UInt8) : (Nat × Int) × Nat := rnum b (gNl b) (gShort b).1
def gLong (b : List UInt8) : Nat × Int := rfail (gByte b &&& 12 != 0) 5 (gFirst b)
def gAll (b : List UInt8) : (Nat × Int) × Hd × Nat :=
 if (gByte b &&& 128 != 0) = true then
  ((lEnd b (gKind b) (gNl b) (gLong b)).1, ⟨true, gKind b, (aVer b (gKind b) (gLong b)).2, (aDst b (gKind b) (gLong b)).2, (aSrc b (gKind b) (gLong b)).2, (aTok b (gKind b) (gLong b)).2, false, false, (lNum b (gKind b) (gNl b) (gLong b)).2, gNl b⟩, (lEnd b (gKind b) (gNl b) (gLong b)).2)
 else ((gShortN b).1, ⟨false, 0, 0, (gShort b).2, [], [], gByte b &&& 32 != 0, gByte b &&& 4 != 0, (gShortN b).2, gNl b⟩, b.length - (gShortN b).1.1)
def get (b : List UInt8) : Hd × Nat × Nat × Int :=
 if (gAll b).1.2 ≠ 0 then (hd0, 0, 0, (gAll b).1.2) else ((gAll b).2.1, (gAll b).1.1, (gAll b).2.2, 0)
theorem rfail_ok {x : Int} {s : Nat × Int} : rfail false x s = s := by simp [rfail]
theorem rtake_ok {b : List UInt8} {n at_ : Nat} (h : n ≤ b.length - at_) : rtake b n (at_, 0) = ((at_ + n, 0), (b.drop at_).take n) := by
 unfold rtake; rw [if_neg (by simp), if_neg (by simp only []; omega)]
theorem rvar_ok {b : List UInt8} {at_ : Nat} (h : (vget (b.drop at_)).2.2 = 0) : rvar b (at_, 0) = ((at_ + (vget (b.drop at_)).2.1, 0), (vget (b.drop at_)).1) := by
 unfold rvar; rw [if_neg (by simp)]; simp only [h]
end Hdr

end
section


end
