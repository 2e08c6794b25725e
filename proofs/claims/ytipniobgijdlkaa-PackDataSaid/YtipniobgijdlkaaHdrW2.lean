/- The walks of package header's reader: what is wrong first; so many bytes; a number of so many bytes. -/
import Derived.Test.YtipniobgijdlkaaLibL
import Derived.Test.YtipniobgijdlkaaLibW
import Derived.Test.YtipniobgijdlkaaLibM
import Derived.Test.YtipniobgijdlkaaHdrM
import Derived.RegionTactic
import Derived.BigRegion
namespace Hdr
open Go.Rw
/-- A reader's state: where it is, what is wrong. -/
def rfail (is : Bool) (x : Int) (s : Nat × Int) : Nat × Int := if is && s.2 == 0 then (s.1, x) else s
def rtake (b : List UInt8) (n : Nat) (s : Nat × Int) : (Nat × Int) × List UInt8 :=
  if s.2 ≠ 0 then (s, []) else if b.length - s.1 < n then ((s.1, 3), []) else ((s.1 + n, 0), (b.drop s.1).take n)
def rnum (b : List UInt8) (n : Nat) (s : Nat × Int) : (Nat × Int) × Nat := ((rtake b n s).1, num (rtake b n s).2)
end Hdr
namespace Go.Proofs.Ytipniobgijdlkaa
open Go.RowKit Go.Rw Hdr
/-- A reader, as it lies. -/
def rd (vb : Value) (s : Nat × Int) : Array Value := #[vb, .int .i64 (s.1 : Nat), .int .i64 s.2]
theorem rd_0 (vb s) : (rd vb s)[0]? = some vb := rfl
theorem rd_1 (vb) (s : Nat × Int) : (rd vb s)[1]? = some (.int .i64 (s.1 : Nat)) := rfl
theorem rd_2 (vb) (s : Nat × Int) : (rd vb s)[2]? = some (.int .i64 s.2) := rfl
theorem rd_set1 (vb) (s : Nat × Int) (n : Nat) : (rd vb s).setIfInBounds 1 (.int .i64 (n : Nat)) = rd vb (n, s.2) := rfl
theorem rd_set2 (vb) (s : Nat × Int) (x : Int) : (rd vb s).setIfInBounds 2 (.int .i64 x) = rd vb (s.1, x) := rfl

theorem results_none {fn : Func} (h : fn.results = #[]) (tmps : Array Value) (P : Program) (w : World) : (results fn tmps).run P w = .ok (.tuple #[]) w := by simp [results, h]

/-- The number that the first bytes tell. -/
theorem num_take_succ (l : List UInt8) (k : Nat) (h : k < l.length) : num (l.take (k + 1)) = num (l.take k) * 256 + n8 (nth l k) := by
  unfold num nth
  rw [List.take_add_one, List.foldl_append, List.getElem?_eq_getElem h]
  rfl
theorem fold_lt : ∀ (l : List UInt8) (x : Nat), l.foldl (fun n c => n * 256 + n8 c) x < (x + 1) * 256 ^ l.length
  | [], x => by simp
  | c :: l, x => by
    have h := fold_lt l (x * 256 + n8 c)
    have hc := n8_lt c
    rw [List.foldl_cons, List.length_cons, Nat.pow_succ]
    refine Nat.lt_of_lt_of_le h ?_
    rw [Nat.mul_comm (256 ^ l.length) 256, ← Nat.mul_assoc]
    exact Nat.mul_le_mul_right _ (by omega)
theorem num_lt (l : List UInt8) : num l < 256 ^ l.length := by
  have := fold_lt l 0
  simpa [num] using this
theorem num_step (x : Nat) (c : UInt8) (h : x < 72057594037927936) : n64 (shl64 (UInt64.ofNat x) 8 ||| Go.Rw.wide c) = x * 256 + n8 c := by
  have hc := n8_lt c
  have e1 : (shl64 (UInt64.ofNat x) 8).toNat = x <<< 8 := by rw [← n64, n64_shl64, n64_ofNat _ (by omega), Nat.shiftLeft_eq]; omega
  have e3 : (Go.Rw.wide c).toNat = n8 c := by rw [← n64, n64_wide]
  show (shl64 (UInt64.ofNat x) 8 ||| Go.Rw.wide c).toNat = _
  rw [UInt64.toNat_or, e1, e3, ← Nat.shiftLeft_add_eq_or_of_lt (by omega), Nat.shiftLeft_eq]
attribute [local go_sem ↓] shift_shl64

end Go.Proofs.Ytipniobgijdlkaa
