/- FrmR; FrmA. -/
import Derived.Test.YthjbmggpleliaaaGreatDoorMhb34
section
namespace Frm
def plainB (n d nr i o : Nat) (fin : Bool) (nd nc nt : Nat) : Bool :=
 decide (n = 0) && decide (d = 0) && decide (nr = 0) && decide (i = 0) && decide (o = 0) && !fin && decide (nd = 0) && decide (nc = 0) && decide (nt = 0)
end Frm
namespace Go.Proofs.YthjbmggpleliaaaGreatDoor
open Go.RowKit Go.Rw Frm Hdr
attribute [local go_sem ↓] ldFF stFF alFF ldH stH alH bdH
attribute [local go_sem] rldFF rstFF ralFF rldH rstH ralH setRow_alloc_at setRow_alloc_past setRow_drew
theorem fv_cells {w : World} {b : Nat} {k : Int} {n d i o : Nat} {fin : Bool} {vr vd vc vt : Value} (h : row? w b = some (fvA k n d vr i o fin vd vc vt)) :
  w.cell? ⟨b, 0, none⟩ = some (.int .i64 k) ∧ w.cell? ⟨b, 1, none⟩ = some (.int .u64 n) ∧ w.cell? ⟨b, 2, none⟩ = some (.int .u64 d) ∧ w.cell? ⟨b, 3, none⟩ = some vr ∧ w.cell? ⟨b, 4, none⟩ = some (.int .u64 i) ∧ w.cell? ⟨b, 5, none⟩ = some (.int .u64 o) ∧ w.cell? ⟨b, 6, none⟩ = some (.bool fin) ∧ w.cell? ⟨b, 7, none⟩ = some vd ∧ w.cell? ⟨b, 8, none⟩ = some vc ∧ w.cell? ⟨b, 9, none⟩ = some vt :=
 ⟨row?_cell h 0, row?_cell h 1, row?_cell h 2, row?_cell h 3, row?_cell h 4, row?_cell h 5, row?_cell h 6, row?_cell h 7, row?_cell h 8, row?_cell h 9⟩
end Go.Proofs.YthjbmggpleliaaaGreatDoor

end
section
namespace Frm
open Go Go.Rw
def rOk (l : List (Nat × Nat)) (i : Nat) : Bool :=
 decide ((l.getD i (0, 0)).1 ≤ (l.getD i (0, 0)).2) && decide ((l.getD i (0, 0)).2 ≤ 4611686018427387903) &&
  (decide (i = 0) || (decide (2 ≤ (l.getD (i - 1) (0, 0)).1) && decide ((l.getD i (0, 0)).2 ≤ (l.getD (i - 1) (0, 0)).1 - 2)))
def rsAll (l : List (Nat × Nat)) (k : Nat) : Bool := (List.range k).all (rOk l)
theorem rsAll_succ (l : List (Nat × Nat)) (k : Nat) : rsAll l (k + 1) = (rsAll l k && rOk l k) := by
 simp [rsAll, List.range_succ]
def rsOk (l : List (Nat × Nat)) : Bool := decide (1 ≤ l.length) && decide (l.length ≤ 8) && rsAll l l.length
def pN (k : Int) : Bool := decide (k = 0 ∨ k = 16 ∨ k = 25 ∨ k = 28 ∨ k = 24)
def pAck (k : Int) : Bool := decide (k = 2)
def pId (k : Int) : Bool := decide (k = 8)
def pOff (k : Int) : Bool := decide (k = 6 ∨ k = 8)
def pData (k : Int) : Bool := decide (k = 6 ∨ k = 8 ∨ k = 26 ∨ k = 27)
def pCid (k : Int) : Bool := decide (k = 24)
def pOk (k : Int) : Bool := decide (k = 1 ∨ k = 30 ∨ k = 0 ∨ k = 16 ∨ k = 25 ∨ k = 28 ∨ k = 2 ∨ k = 6 ∨ k = 8 ∨ k = 24 ∨ k = 26 ∨ k = 27)
theorem hasP_eq (k : Int) : hasP k = (#[.bool (pN k), .bool (pAck k), .bool (pId k), .bool (pOff k), .bool (pId k), .bool (pData k), .bool (pCid k)], pOk k) := by
 unfold hasP pN pAck pId pOff pData pCid pOk
 repeat' split
 all_goals rename_i h
 all_goals first
  | (rcases h with h | h | h | h <;> subst h <;> rfl)
  | (rcases h with h | h <;> subst h <;> rfl)
  | (subst h; rfl)
  | skip
 rw [decide_eq_false (by omega), decide_eq_false (by omega), decide_eq_false (by omega), decide_eq_false (by omega), decide_eq_false (by omega), decide_eq_false (by omega), decide_eq_false (by omega)]
def dlB (k : Int) (nd o : Nat) : Bool :=
 if k = 26 ∨ k = 27 then decide (nd = 8) else if k = 6 ∨ k = 8 then decide (nd ≤ 16383) && decide (o + nd ≤ 4611686018427387903) else true
def no1 (k : Int) (n i o : Nat) (fin : Bool) (nd : Nat) : Bool :=
 !pOk k || (decide (n ≠ 0) && !pN k) || (decide (i ≠ 0) && !pId k) || (decide (o ≠ 0) && !pOff k) || (fin && !pId k) || (decide (0 < nd) && !pData k)
def no2 (k : Int) (d nr nc nt : Nat) : Bool := (!pAck k && (decide (d ≠ 0) || decide (0 < nr))) || (!pCid k && decide (0 < nc + nt))
def no3 (n i o d : Nat) : Bool := decide (4611686018427387903 < n) || decide (4611686018427387903 < i) || decide (4611686018427387903 < o) || decide (4611686018427387903 < d)
def no4 (k : Int) (nc nt : Nat) (ok : Bool) : Bool := (pCid k && (decide (nc ≠ 8) || decide (nt ≠ 16))) || (pAck k && !ok)
def no5 (k : Int) (n : Nat) : Bool := decide (k = 0) && (decide (n < 1) || decide (16384 < n))
def mayG (k : Int) (n d nr : Nat) (ok : Bool) (i o : Nat) (fin : Bool) (nd nc nt : Nat) : Bool :=
 !no1 k n i o fin nd && !no2 k d nr nc nt && !no3 n i o d && !no4 k nc nt ok && !no5 k n && dlB k nd o
def mayB (k : Int) (n d nr : Nat) (ok : Bool) (i o : Nat) (fin : Bool) (nd nc nt : Nat) : Bool :=
 if k = 0 then decide (1 ≤ n ∧ n ≤ 16384) && plainB 0 d nr i o fin nd nc nt
 else if k = 1 ∨ k = 30 then plainB n d nr i o fin nd nc nt
 else if k = 2 then decide (d ≤ 4611686018427387903) && ok && plainB n 0 0 i o fin nd nc nt
 else if k = 6 then decide (nd < 16384 ∧ i ≤ 4611686018427387903 ∧ o + nd ≤ 4611686018427387903) && plainB n d nr i 0 fin 0 nc nt
 else if k = 8 then decide (nd < 16384 ∧ i ≤ 4611686018427387903 ∧ o + nd ≤ 4611686018427387903) && plainB n d nr 0 0 false 0 nc nt
 else if k = 16 ∨ k = 25 ∨ k = 28 then decide (n ≤ 4611686018427387903) && plainB 0 d nr i o fin nd nc nt
 else if k = 24 then decide (n ≤ 4611686018427387903 ∧ nc = 8 ∧ nt = 16) && plainB 0 d nr i o fin nd 0 0
 else if k = 26 ∨ k = 27 then decide (nd = 8) && plainB n d nr i o fin 0 nc nt
 else false
set_option maxHeartbeats 1000000 in
theorem may_eq (k : Int) (n d nr : Nat) (ok : Bool) (i o : Nat) (fin : Bool) (nd nc nt : Nat) (hok : ok = true → 1 ≤ nr) : mayG k n d nr ok i o fin nd nc nt = mayB k n d nr ok i o fin nd nc nt := by
 rw [Bool.eq_iff_iff]
 unfold mayB
 repeat' split
 all_goals rename_i h
 all_goals first
  | (rcases h with h | h | h | h <;> subst h)
  | (rcases h with h | h | h <;> subst h)
  | (rcases h with h | h <;> subst h)
  | (subst h)
  | skip
 all_goals cases fin <;> cases ok <;> simp [mayG, no1, no2, no3, no4, no5, dlB, pOk, pN, pAck, pId, pOff, pData, pCid, plainB] at hok ⊢ <;> omega
end Frm

end
