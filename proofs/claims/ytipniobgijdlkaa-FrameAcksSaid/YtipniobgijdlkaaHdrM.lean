/- Headers' numbers, in plain words: how a number is cut, and found again; how bytes tell a number. No condition. -/
import Derived.Test.YtipniobgijdlkaaLibB
namespace Hdr
open Go.Rw
/-- How many bytes of a number must be told. -/
def cutD (d : Nat) : Nat := if d ≤ 128 then 1 else if d ≤ 32768 then 2 else if d ≤ 8388608 then 3 else 4
def cut (num acked : Nat) (any : Bool) : Nat :=
  if any then (if num < acked then 1 else cutD (num - acked)) else cutD (if num + 1 < 18446744073709551616 then num + 1 else num)
theorem cutD_range (d : Nat) : 1 ≤ cutD d ∧ cutD d ≤ 4 := by
  unfold cutD
  repeat' split
  all_goals omega
theorem cut_range (num acked : Nat) (any : Bool) : 1 ≤ cut num acked any ∧ cut num acked any ≤ 4 := by
  unfold cut
  repeat' split
  all_goals first | omega | exact cutD_range _
/-- The number that a part of it tells, the part's bytes standing for W. -/
def fullW (c W next : Nat) : Nat :=
  let o := next / W * W + c % W
  if o + W / 2 ≤ next ∧ o < 4611686018427387904 - W then o + W else if next + W / 2 < o ∧ W ≤ o then o - W else o
def wide (n : Int) : Nat := if n = 1 then 256 else if n = 2 then 65536 else if n = 3 then 16777216 else 4294967296
def full (c : Nat) (n : Int) (largest : Nat) (any : Bool) : Nat :=
  if n < 1 ∨ 4 < n ∨ 4611686018427387903 < largest then 0 else fullW c (wide n) (if any then largest + 1 else 0)
theorem fullW_back {c W next num : Nat} (hW : W = 256 ∨ W = 65536 ∨ W = 16777216 ∨ W = 4294967296) (h1 : next ≤ num) (h2 : num < next + W / 2) (h3 : num < 4611686018427387904) (h4 : c % W = num % W) : fullW c W next = num := by
  unfold fullW
  rw [h4]
  rcases hW with rfl | rfl | rfl | rfl
  all_goals
    simp only []
    repeat' split
    all_goals omega
theorem wide_cut (d : Nat) : wide (cutD d : Nat) = 256 ∨ wide (cutD d : Nat) = 65536 ∨ wide (cutD d : Nat) = 16777216 ∨ wide (cutD d : Nat) = 4294967296 := by
  unfold cutD
  repeat' split
  all_goals simp [wide]
theorem wide_big (d : Nat) (h : d ≤ 1073741824) : d ≤ wide (cutD d : Nat) / 2 := by
  unfold cutD
  repeat' split
  all_goals simp [wide]; try omega
theorem full_back {c num acked largest : Nat} (hd : num ≤ acked + 1073741824) (ha : acked ≤ largest) (hl : largest < num) (hn : num < 4611686018427387904) (hc : c % wide (cut num acked true : Nat) = num % wide (cut num acked true : Nat)) :
    full c (cut num acked true : Nat) largest true = num := by
  have e : cut num acked true = cutD (num - acked) := by unfold cut; rw [if_pos rfl, if_neg (by omega)]
  rw [e] at hc ⊢
  have hr := cutD_range (num - acked)
  have hw := wide_big (num - acked) (by omega)
  unfold full
  rw [if_neg (by omega), if_pos rfl]
  exact fullW_back (wide_cut _) (by omega) (by omega) hn hc
theorem cut_least {num acked : Nat} (h : acked ≤ num) : cut num acked true = 1 ∨ (cut num acked true = 2 ∧ 256 < 2 * (num - acked)) ∨ (cut num acked true = 3 ∧ 65536 < 2 * (num - acked)) ∨ (cut num acked true = 4 ∧ 16777216 < 2 * (num - acked)) := by
  unfold cut
  rw [if_pos rfl, if_neg (by omega)]
  unfold cutD
  repeat' split
  all_goals omega
/-- A number's lowest bytes, the highest ahead. -/
def be (n many : Nat) : List UInt8 := (List.range many).map fun k => UInt8.ofNat (n / 256 ^ (many - 1 - k))
theorem be_length (n many : Nat) : (be n many).length = many := by simp [be]
/-- The number that bytes tell. -/
def num (b : List UInt8) : Nat := b.foldl (fun n c => n * 256 + n8 c) 0
end Hdr
