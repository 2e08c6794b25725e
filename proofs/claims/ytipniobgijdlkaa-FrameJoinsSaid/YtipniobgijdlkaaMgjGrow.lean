/- The walk of Grow: so many bytes. -/
import Derived.Test.YtipniobgijdlkaaMgj1
import Derived.Test.YtipniobgijdlkaaMgj2
namespace Go.Proofs.Ytipniobgijdlkaa
open Go.RowKit Go.Rw
theorem mk_bytes (n : Nat) (h : n ≤ 1000000) (w : World) : (Instr.makeSlice 25 (.int .i64 (n : Nat)) (.int .i64 (n : Nat))).run Try.prog w = .ok (.slice (some ⟨w.heap.size, 0, none⟩) n n) (w.alloc (.cells (bvs (List.replicate n 0)) 5)) := by
  obtain ⟨i0, hi, hz0, hz1, hz2⟩ := info_parts info8
  rw [run_make w _ _ i0 _ Try.underlying25 hi hz0 .i64 .i64 (n : Nat) (n : Nat) (by omega) (by omega) (by rw [hz2]; omega) (by omega)]
  rw [hz1, Nat.mul_one]
  simp only [Int.toNat_natCast]
  have e : madeCells (Value.int .u8 0).cells n = bvs (List.replicate n 0) := Array.toList_inj.1 (by rw [show (Value.int .u8 0).cells = #[Value.int .u8 0] from rfl, zeros_made]; simp [bvs])
  rw [e]
theorem u8_wrap (x : Int) : IntKind.u8.wrap x = ((n8 (UInt8.ofInt x) : Nat) : Int) := by
  simp only [IntKind.wrap_u8, n8, UInt8.ofInt]
  simp
  omega
set_option maxHeartbeats 1000000 in
theorem grow_row (n by_ : Nat) (hn : n ≤ 1000) (hb : by_ ≤ 1000) (w : World) :
    Calls Try.prog 23 #[.int .i64 (n : Nat), .int .i64 (by_ : Nat)] w fun e w' => ∃ l, e = .returned (.slice (some ⟨w.heap.size, 0, none⟩) n n) ∧ l.length = n ∧ row? w' w.heap.size = some (bvs l) ∧ Below w.heap.size w w' := by
  have hmk := mk_bytes n (by omega)
  go_enter Try.func23, Try.ntmps23
  go_wp2_with fail
  go_loopw [6] (fun v wr => ∃ (i : Nat) (l : List UInt8), i ≤ n ∧ v = .int .i64 i ∧ l.length = n ∧ row? wr w.heap.size = some (bvs l) ∧ Below w.heap.size w wr) (fun v _ => n - (intOf v).toNat)
  case atStart => exact ⟨0, List.replicate n 0, by omega, rfl, by simp, by simp [go_sem], (Below.refl _ _).alloc (Nat.le_refl _) _⟩
  case round =>
    obtain ⟨i, l, hi, rfl, hl, hr, hbw⟩ := hrel
    by_cases hlt : i < n
    · have c1 : wr.cell? ⟨w.heap.size, i, none⟩ = some (.int .u8 (n8 (nth l i) : Nat)) := (row?_cell hr i).trans (by rw [bvs_getElem?, if_pos (by omega)])
      have f1 := row?_frozen hr i
      have H := Lib.hid hr
      have HL := Lib.hid hl
      clear hr hl
      go_wp2_with fail
      go_roundw
      case rel =>
        have e : ((i : Int) * 7 + (by_ : Int) * 31 + (i : Int) / 13) % 256 = ((n8 (UInt8.ofInt ((i : Int) * 7 + (by_ : Int) * 31 + (i : Int) / 13)) : Nat) : Int) := by rw [← u8_wrap, IntKind.wrap_u8]
        refine ⟨i + 1, l.set i (UInt8.ofInt ((i : Int) * 7 + (by_ : Int) * 31 + (i : Int) / 13)), by omega, by go_num, by simp [HL.out], ?_, hbw.setCell (by simp) _⟩
        rw [e, row?_setCell_eq H.out, bvs_setn]
      case measure => simp [intOf]; omega
    · obtain rfl : i = n := by omega
      have H := Lib.hid hr
      have HL := Lib.hid hl
      clear hr hl
      go_wp2_with fail
      go_ret
      exact ⟨l, rfl, HL.out, H.out, hbw⟩
theorem grow_any (n by_ : Nat) (hn : n ≤ 1000) (hb : by_ ≤ 1000) (w : World) :
    Calls Try.prog 23 #[.int .i64 (n : Nat), .int .i64 (by_ : Nat)] w fun e w' => ∃ v l, e = .returned v ∧ l.length = n ∧ Sl w' v l ∧ Below w.heap.size w w' := by
  refine (grow_row n by_ hn hb w).mono ?_
  rintro e w' ⟨l, rfl, hl, hr, hb⟩
  refine ⟨_, l, rfl, hl, ?_, hb⟩
  have := Sl.row hr
  rwa [hl] at this
end Go.Proofs.Ytipniobgijdlkaa
