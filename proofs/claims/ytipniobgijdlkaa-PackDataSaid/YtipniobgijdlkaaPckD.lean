/- The walk of package pack's Data: as much as fits. -/
import Derived.Test.YtipniobgijdlkaaPckA
namespace Go.Proofs.Ytipniobgijdlkaa
open Go.RowKit Go.Rw Frm Hdr
theorem vlen_pos (n : Nat) (h : n < 2 ^ 62) : 1 ≤ vlen n ∧ vlen n ≤ 8 := by
  unfold vlen
  repeat' split
  all_goals omega
theorem vlen_mono {m n : Nat} (h : m ≤ n) (hn : n < 2 ^ 62) : vlen m ≤ vlen n := by
  unfold vlen
  repeat' split
  all_goals omega
set_option maxHeartbeats 2000000 in
theorem data_any (id off : Nat) (hi : id < 2 ^ 62) (ho : off < 2 ^ 62) (room : Nat) (hr : room ≤ 2 ^ 15) (w : World) :
    Calls Try.prog 14 #[.int .u64 id, .int .u64 off, .int .i64 room] w fun e w' => Below w.heap.size w w' ∧ ∃ N : Nat, e = .returned (.int .i64 N) ∧ N ≤ 16383 ∧
      (0 < N → off + N ≤ 2 ^ 62 - 1 ∧ 1 + vlen id + vlen off + vlen N + N ≤ room) ∧ (off + N = 2 ^ 62 - 1 ∨ N = 16383 ∨ room < 1 + vlen id + vlen off + vlen (N + 1) + (N + 1)) := by
  have p1 := vlen_pos id hi
  have p2 := vlen_pos off ho
  go_enter Try.func14, Try.ntmps14
  go_wp2_with fail
  refine (vlen_any id (by omega) _).mono ?_
  rintro e w1 ⟨rfl, b1⟩
  have B1 := Lib.hid b1
  clear b1
  go_wp2_with fail
  refine (vlen_any off (by omega) _).mono ?_
  rintro e w2 ⟨rfl, b2⟩
  have B2 := Lib.hid (B1.out.trans (b2.mono B1.out.size))
  clear b2
  go_wp2_with fail
  obtain ⟨L, hL⟩ : ∃ L : Int, (room : Int) - 1 - (vlen id : Int) - (vlen off : Int) = L := ⟨_, rfl⟩
  rw [hL]
  have l1 : L ≤ 32768 := by omega
  have l2 : -17 ≤ L := by omega
  go_loopw [8] (fun v wr => ∃ x : Int, v = .int .i64 x ∧ x ≤ 16383 ∧ x ≤ L ∧ -17 ≤ x ∧ (∀ y : Nat, x < y → y ≤ 16383 → L < vlen y + y) ∧ Below w.heap.size w wr) (fun v _ => (intOf v).toNat)
  case atStart =>
    refine ⟨_, rfl, by omega, by omega, by omega, fun y h1 h2 => ?_, B2.out⟩
    have := vlen_pos y (by omega)
    omega
  case round =>
    obtain ⟨x, rfl, x1, x2, x3, hy, hb⟩ := hrel
    have HB := Lib.hid hb
    have HY := Lib.hid hy
    clear hb hy
    by_cases x0 : 0 < x
    · obtain ⟨m, rfl⟩ : ∃ m : Nat, x = m := ⟨x.toNat, by omega⟩
      go_wp2_with fail
      refine (vlen_any m (by omega) _).mono ?_
      rintro e w3 ⟨rfl, b3⟩
      have B3 := Lib.hid (HB.out.trans (b3.mono HB.out.size))
      have p3 := vlen_pos m (by omega)
      clear b3
      by_cases hc : L < vlen m + m
      · go_wp2_with fail
        go_roundw
        case rel =>
          refine ⟨_, rfl, by omega, by omega, by omega, fun y h1 h2 => ?_, B3.out⟩
          by_cases he : y = m
          · subst he; exact hc
          · exact HY.out y (by omega) h2
        case measure => simp [intOf]; omega
      · go_wp2_with fail
        obtain ⟨N, hN⟩ : ∃ N : Nat, min (m : Int) (4611686018427387903 - (off : Int)) = N := ⟨min m (4611686018427387903 - off), by omega⟩
        rw [hN]
        go_ret
        have h1 := vlen_mono (m := N) (n := m) (by omega) (by omega)
        refine ⟨B3.out, N, rfl, by omega, fun h => ⟨by omega, by omega⟩, ?_⟩
        by_cases hm : N = m
        · subst hm
          by_cases h8 : N = 16383
          · exact .inr (.inl h8)
          · have := HY.out (N + 1) (by omega) (by omega)
            exact .inr (.inr (by omega))
        · exact .inl (by omega)
    · go_wp2_with fail
      rw [show min (max x 0) (4611686018427387903 - (off : Int)) = ((0 : Nat) : Int) by omega]
      go_ret
      have := HY.out (0 + 1) (by omega) (by omega)
      refine ⟨HB.out, 0, rfl, by omega, fun h => absurd h (by omega), .inr (.inr (by omega))⟩
set_option maxHeartbeats 2000000 in
theorem data_none (id off : Nat) (room : Int) (h : 2 ^ 62 ≤ id ∨ 2 ^ 62 ≤ off ∨ room < 0) (w : World) :
    Calls Try.prog 14 #[.int .u64 id, .int .u64 off, .int .i64 room] w fun e w' => e = .returned (.int .i64 0) ∧ Below w.heap.size w w' := by
  go_enter Try.func14, Try.ntmps14
  by_cases h1 : 2 ^ 62 ≤ id
  case pos =>
    go_wp2_with fail
    go_ret
    exact ⟨rfl, Below.refl _ _⟩
  by_cases h2 : 2 ^ 62 ≤ off
  case pos =>
    go_wp2_with fail
    go_ret
    exact ⟨rfl, Below.refl _ _⟩
  have h3 : room < 0 := by omega
  go_wp2_with fail
  go_ret
  exact ⟨rfl, Below.refl _ _⟩
end Go.Proofs.Ytipniobgijdlkaa
