/- The walk of the law PackData. (under way) -/
import Derived.Test.YtipniobgijdlkaaPckD
import Derived.Test.YtipniobgijdlkaaFrmT
import Derived.Test.YtipniobgijdlkaaPckR
import Derived.Test.YtipniobgijdlkaaGrow
import Derived.Test.YtipniobgijdlkaaLibH
namespace Go.Proofs.Ytipniobgijdlkaa
open Go.RowKit Go.Rw Frm Hdr
attribute [local go_sem ↓] ldFF stFF alFF ldH stH alH bdH bdF
attribute [local go_sem] rldFF rstFF ralFF rldH rstH ralH setRow_alloc_at setRow_alloc_past setRow_drew
theorem buildFS (i o : Nat) (ao : Option Addr) (m cap : Nat) (w : World) : (buildP 28 #[(0, .int .i64 8), (4, .int .u64 i), (5, .int .u64 o), (7, .slice ao m cap)]).run Try.prog w = .ok (.agg (fvA 8 0 0 (.slice none 0 0) i o false (.slice ao m cap) (.slice none 0 0) (.slice none 0 0))) w := Go.run_build w _ _ _ (by kernel_rfl)
attribute [local go_sem] buildFS
/-- pack.Data of any room, for numbers that may be. -/
theorem data_all (id off : Nat) (hi : id < 4611686018427387904) (ho : off < 4611686018427387904) (room : Int) (hr : room ≤ 32768) (w : World) :
    Calls Try.prog 14 #[.int .u64 id, .int .u64 off, .int .i64 room] w fun e w' => Below w.heap.size w w' ∧ ∃ N : Nat, e = .returned (.int .i64 N) ∧ N ≤ 16383 ∧
      (0 < N → off + N ≤ 4611686018427387903 ∧ 1 + (vlen id : Int) + vlen off + vlen N + N ≤ room) ∧ (off + N = 4611686018427387903 ∨ N = 16383 ∨ room < 1 + (vlen id : Int) + vlen off + vlen (N + 1) + (N + 1)) := by
  by_cases h : room < 0
  · refine (data_none id off room (.inr (.inr h)) w).mono ?_
    rintro e w' ⟨rfl, hb⟩
    exact ⟨hb, 0, rfl, by omega, fun h => absurd h (by omega), .inr (.inr (by omega))⟩
  · obtain ⟨r, rfl⟩ : ∃ r : Nat, room = r := ⟨room.toNat, by omega⟩
    refine (data_any id off (by omega) (by omega) r (by omega) w).mono ?_
    rintro e w' ⟨hb, N, rfl, h1, h2, h3⟩
    refine ⟨hb, N, rfl, h1, fun h => ?_, ?_⟩
    · have := h2 h
      omega
    · omega
set_option maxRecDepth 20000 in
set_option maxHeartbeats 2000000 in
theorem packData_any (id off : Nat) (room : Int) (w : World) :
    Calls Try.prog 3 #[.int .u64 id, .int .u64 off, .int .i64 room] w fun e w' => e = .returned (.bool true) ∧ Below w.heap.size w w' := by
  go_enter Try.func3, Try.ntmps3
  by_cases hr : room ≤ 32768
  case neg =>
    go_wp2_with fail
    refine (awake_any _).mono ?_
    rintro e w1 ⟨rfl, b1⟩
    go_wp2_with fail
    go_ret
    exact ⟨rfl, b1⟩
  by_cases hr2 : -1048576 ≤ room
  case neg =>
    go_wp2_with fail
    refine (awake_any _).mono ?_
    rintro e w1 ⟨rfl, b1⟩
    go_wp2_with fail
    go_ret
    exact ⟨rfl, b1⟩
  by_cases hid : id < 4611686018427387904 ∧ off < 4611686018427387904
  case neg =>
    have hn : 4611686018427387904 ≤ id ∨ 4611686018427387904 ≤ off := by omega
    go_wp2_with fail
    refine (data_none id off room (by omega) _).mono ?_
    rintro e w1 ⟨rfl, b1⟩
    by_cases h1 : 4611686018427387904 ≤ id
    · go_wp2_with fail
      refine (awake_any _).mono ?_
      rintro e w2 ⟨rfl, b2⟩
      go_wp2_with fail
      go_ret
      exact ⟨rfl, b1.trans (b2.mono b1.size)⟩
    · have h2 : 4611686018427387904 ≤ off := by omega
      go_wp2_with fail
      refine (awake_any _).mono ?_
      rintro e w2 ⟨rfl, b2⟩
      go_wp2_with fail
      go_ret
      exact ⟨rfl, b1.trans (b2.mono b1.size)⟩
  obtain ⟨hi, ho⟩ := hid
  go_wp2_with fail
  refine (data_all id off hi ho room hr _).mono ?_
  rintro e w1 ⟨b1, N, rfl, hN, hp, hq⟩
  have B1 := Lib.hid b1
  have HP := Lib.hid hp
  have HQ := Lib.hid hq
  clear b1 hp hq
  have mkN := mk_bytes N (by omega)
  have mkM := mk_bytes (N + 1) (by omega)
  simp only [Int.natCast_add, Int.cast_ofNat_Int] at mkM
  have MKM := Lib.hid mkM
  clear mkM
  have hz : (fvA 8 0 0 (.slice none 0 0) id off false (.slice (some ⟨w1.heap.size, 0, none⟩) N N) (.slice none 0 0) (.slice none 0 0)).size = 10 := rfl
  have hb := buildFS id off (some ⟨w1.heap.size, 0, none⟩) N N
  have ha := fvA_all 8 0 0 none (some ⟨w1.heap.size, 0, none⟩) none none 0 N 0 0 0 N 0 0 id off false
  have hm := fun W => rmay_stream id off N false (some ⟨w1.heap.size, 0, none⟩) N W
  have hpt := fun (h : N < 16384) (h2 : off + N < 4611686018427387904) W => rput_stream id off hi (List.replicate N 0) (by simpa using h) (by simpa using h2) (some ⟨w1.heap.size, 0, none⟩) N W
  simp only [List.length_replicate] at hpt
  generalize hF : fvA 8 0 0 (.slice none 0 0) id off false (.slice (some ⟨w1.heap.size, 0, none⟩) N N) (.slice none 0 0) (.slice none 0 0) = F at *
  have HM := Lib.hid hm
  have HPT := Lib.hid hpt
  have HF := Lib.hid hF
  clear hm hpt hF
  by_cases hN0 : N = 0
  case pos =>
    have q0 : (N : Int) ≤ 0 := by omega
    have H0 := Lib.hid hN0
    clear hN0
    go_wp2_with (with_reducible refine Rw.hold_ops 56 ?_)
    refine Rw.Held.mk ?_
    have C3 := Lib.hid (bel2 w1 (.cells (bvs (List.replicate N 0)) 5) (.cells F 28))
    have R3 := Lib.hid (show row? ((w1.alloc (.cells (bvs (List.replicate N 0)) 5)).alloc (.cells F 28)) (w1.heap.size + 1) = some F from row?_alloc_at _ _ _ _ (by simp))
    generalize ((w1.alloc (.cells (bvs (List.replicate N 0)) 5)).alloc (.cells F 28)) = w3 at C3 R3 ⊢
    have mkM := MKM.out
    have cc : ∃ x, w3.cell? ⟨w1.heap.size + 1, 7, none⟩ = some x := by rw [row?_cell R3.out]; exact ⟨_, Array.getElem?_eq_getElem (by rw [hz]; decide)⟩
    obtain ⟨x7, cc⟩ := cc
    have ff : w3.frozen? ⟨w1.heap.size + 1, 7, none⟩ = false := row?_frozen R3.out 7
    have ll := row?_lt R3.out
    go_wp2_with (with_reducible refine Rw.hold_ops 60 ?_)
    refine Rw.Held.mk ?_
    clear cc ff mkM
    obtain ⟨G, hG⟩ : ∃ G, F.setIfInBounds 7 (.slice (some ⟨w3.heap.size, 0, none⟩) (N + 1) (N + 1)) = G := ⟨_, rfl⟩
    have hGG : fvA 8 0 0 (.slice none 0 0) id off false (.slice (some ⟨w3.heap.size, 0, none⟩) (N + 1) (N + 1)) (.slice none 0 0) (.slice none 0 0) = G := by rw [← hG, ← HF.out]; rfl
    have g4 : row? ((w3.setCell ⟨w1.heap.size + 1, 7, none⟩ (.slice (some ⟨w3.heap.size, 0, none⟩) (N + 1) (N + 1))).alloc (.cells (bvs (List.replicate (N + 1) 0)) 5)) (w1.heap.size + 1) = some G := by
      rw [row?_alloc_past _ _ _ (by simpa using ll), row?_setCell_eq R3.out, hG]
    have z4 : row? ((w3.setCell ⟨w1.heap.size + 1, 7, none⟩ (.slice (some ⟨w3.heap.size, 0, none⟩) (N + 1) (N + 1))).alloc (.cells (bvs (List.replicate (N + 1) 0)) 5)) w3.heap.size = some (bvs (List.replicate (N + 1) 0)) := row?_alloc_at _ _ _ _ (by simp)
    have b4 : Below w1.heap.size w1 ((w3.setCell ⟨w1.heap.size + 1, 7, none⟩ (.slice (some ⟨w3.heap.size, 0, none⟩) (N + 1) (N + 1))).alloc (.cells (bvs (List.replicate (N + 1) 0)) 5)) := (C3.out.setCell (p := ⟨w1.heap.size + 1, 7, none⟩) (by simp) _).alloc (by simpa using C3.out.size) _
    generalize ((w3.setCell ⟨w1.heap.size + 1, 7, none⟩ (.slice (some ⟨w3.heap.size, 0, none⟩) (N + 1) (N + 1))).alloc (.cells (bvs (List.replicate (N + 1) 0)) 5)) = w4 at g4 z4 b4 ⊢
    have szG : G.size = 10 := by rw [← hGG]; rfl
    have le4 := rldFF w4 (w1.heap.size + 1) (by rw [g4, Option.map_some, szG])
    rw [g4] at le4
    have le4' : (loadAgg 28 (.pointer (some ⟨w1.heap.size + 1, 0, none⟩))).run Try.prog w4 = .ok (.agg G) w4 := le4
    have hm4 := rmay_stream id off (N + 1) false (some ⟨w3.heap.size, 0, none⟩) (N + 1) w4
    rw [hGG] at hm4
    have HM4 := Lib.hid hm4
    have HGG := Lib.hid hGG
    have Z4 := Lib.hid z4
    have G4 := Lib.hid g4
    have B4 := Lib.hid (B1.out.trans (b4.mono B1.out.size))
    clear hG g4 z4 b4 le4 ll hm4 hGG
    go_wp2_with fail
    refine HM4.out.mono ?_
    by_cases hmay : N + 1 < 16384 ∧ id < 4611686018427387904 ∧ off + (N + 1) < 4611686018427387904
    case neg =>
      rw [decide_eq_false hmay]
      rintro e w5 ⟨rfl, b5⟩
      have B5 := Lib.hid (B4.out.trans (b5.mono B4.out.size))
      clear b5 hmay le4'
      go_wp2_with fail
      refine (awake_any _).mono ?_
      rintro e w6 ⟨rfl, b6⟩
      have B6 := Lib.hid (B5.out.trans (b6.mono B5.out.size))
      clear b6
      go_wp2_with fail
      go_ret
      exact ⟨rfl, B6.out⟩
    rw [decide_eq_true hmay]
    rintro e w5 ⟨rfl, b5⟩
    have G5 := Lib.hid (show row? w5 (w1.heap.size + 1) = some G by rw [row?_below b5 (row?_lt G4.out)]; exact G4.out)
    have Z5 := Lib.hid (show row? w5 w3.heap.size = some (bvs (List.replicate (N + 1) 0)) by rw [row?_below b5 (row?_lt Z4.out)]; exact Z4.out)
    have B5 := Lib.hid (B4.out.trans (b5.mono B4.out.size))
    have le5 := rldFF w5 (w1.heap.size + 1) (by rw [G5.out, Option.map_some, szG])
    rw [G5.out] at le5
    have le5' : (loadAgg 28 (.pointer (some ⟨w1.heap.size + 1, 0, none⟩))).run Try.prog w5 = .ok (.agg G) w5 := le5
    clear le5 le4' b5
    go_wp2_with fail
    have sz5 := Sl.row Z5.out
    rw [List.length_replicate] at sz5
    have hpt5 := rput_stream id off hi (List.replicate (N + 1) 0) (by rw [List.length_replicate]; exact hmay.1) (by rw [List.length_replicate]; exact hmay.2.2) (some ⟨w3.heap.size, 0, none⟩) (N + 1) w5
    rw [List.length_replicate, HGG.out] at hpt5
    refine (hpt5 sz5).mono ?_
    rintro e w6 ⟨v6, rfl, s6, b6⟩
    obtain ⟨q6, hq6⟩ : ∃ q6, (14 :: (vin id (vlen id) ++ vin off (vlen off) ++ vin (N + 1) (vlen (N + 1)) ++ List.replicate (N + 1) 0) : List UInt8) = q6 := ⟨_, rfl⟩
    rw [hq6] at s6
    have hl6 : q6.length = 1 + vlen id + vlen off + vlen (N + 1) + (N + 1) := by rw [← hq6]; simp [vin_length]; omega
    have hgt : room < (q6.length : Int) := by have := HQ.out; omega
    obtain ⟨a6, e6, rfl, -, -, -⟩ := s6
    have B6 := Lib.hid (B5.out.trans (b6.mono B5.out.size))
    clear hq6 b6 le5' sz5 hpt5 hl6 hmay
    go_wp2_with fail
    refine (awake_any _).mono ?_
    rintro e w7 ⟨rfl, b7⟩
    have B7 := Lib.hid (B6.out.trans (b7.mono B6.out.size))
    clear b7
    go_wp2_with fail
    go_ret
    exact ⟨rfl, B7.out⟩
  have q0 : (0 : Int) < N := by omega
  go_wp2_with fail
  have p4 := HP.out (by omega)
  refine (HM.out _).mono ?_
  rw [show decide (N < 16384 ∧ id < 4611686018427387904 ∧ off + N < 4611686018427387904) = true from decide_eq_true ⟨by omega, hi, by omega⟩]
  rintro e w2 ⟨rfl, b2⟩
  have bb2 : Below w1.heap.size w1 ((w1.alloc (.cells (bvs (List.replicate N 0)) 5)).alloc (.cells F 28)) := bel2 w1 _ _
  have Z2 := Lib.hid (show row? w2 w1.heap.size = some (bvs (List.replicate N 0)) by
    rw [row?_below b2 (by simp <;> omega), row?_alloc_past _ _ _ (by simp)]; exact row?_alloc_at _ _ _ _ rfl)
  have R2 := Lib.hid (show row? w2 (w1.heap.size + 1) = some F by
    rw [row?_below b2 (by simp <;> omega)]; exact row?_alloc_at _ _ _ _ (by simp))
  have C2 := Lib.hid (bb2.trans (b2.mono (by simp <;> omega)))
  have le := rldFF w2 (w1.heap.size + 1) (by rw [R2.out, Option.map_some, hz])
  rw [R2.out] at le
  have le' : (loadAgg 28 (.pointer (some ⟨w1.heap.size + 1, 0, none⟩))).run Try.prog w2 = .ok (.agg F) w2 := le
  clear le b2 bb2
  go_wp2_with fail
  have sz := Sl.row Z2.out
  rw [List.length_replicate] at sz
  refine (HPT.out (by omega) (by omega) w2 sz).mono ?_
  rintro e w3 ⟨v3, rfl, s3, b3⟩
  obtain ⟨q3, hq3⟩ : ∃ q3, (14 :: (vin id (vlen id) ++ vin off (vlen off) ++ vin N (vlen N) ++ List.replicate N 0) : List UInt8) = q3 := ⟨_, rfl⟩
  rw [hq3] at s3
  have hl3 : q3.length = 1 + vlen id + vlen off + vlen N + N := by rw [← hq3]; simp [vin_length]; omega
  obtain ⟨a3, e3, rfl, -, -, -⟩ := s3
  have R3 := Lib.hid (show row? w3 (w1.heap.size + 1) = some F by rw [row?_below b3 (row?_lt R2.out)]; exact R2.out)
  have C3 := Lib.hid (C2.out.trans (b3.mono C2.out.size))
  clear hq3 b3 le' sz
  go_wp2_with (with_reducible refine Rw.hold_ops 56 ?_)
  refine Rw.Held.mk ?_
  have mkM := MKM.out
  have cc : ∃ x, w3.cell? ⟨w1.heap.size + 1, 7, none⟩ = some x := by rw [row?_cell R3.out]; exact ⟨_, Array.getElem?_eq_getElem (by rw [hz]; decide)⟩
  obtain ⟨x7, cc⟩ := cc
  have ff : w3.frozen? ⟨w1.heap.size + 1, 7, none⟩ = false := row?_frozen R3.out 7
  have ll := row?_lt R3.out
  go_wp2_with (with_reducible refine Rw.hold_ops 60 ?_)
  refine Rw.Held.mk ?_
  clear cc ff mkM
  obtain ⟨G, hG⟩ : ∃ G, F.setIfInBounds 7 (.slice (some ⟨w3.heap.size, 0, none⟩) (N + 1) (N + 1)) = G := ⟨_, rfl⟩
  have hGG : fvA 8 0 0 (.slice none 0 0) id off false (.slice (some ⟨w3.heap.size, 0, none⟩) (N + 1) (N + 1)) (.slice none 0 0) (.slice none 0 0) = G := by rw [← hG, ← HF.out]; rfl
  have g4 : row? ((w3.setCell ⟨w1.heap.size + 1, 7, none⟩ (.slice (some ⟨w3.heap.size, 0, none⟩) (N + 1) (N + 1))).alloc (.cells (bvs (List.replicate (N + 1) 0)) 5)) (w1.heap.size + 1) = some G := by
    rw [row?_alloc_past _ _ _ (by simpa using ll), row?_setCell_eq R3.out, hG]
  have z4 : row? ((w3.setCell ⟨w1.heap.size + 1, 7, none⟩ (.slice (some ⟨w3.heap.size, 0, none⟩) (N + 1) (N + 1))).alloc (.cells (bvs (List.replicate (N + 1) 0)) 5)) w3.heap.size = some (bvs (List.replicate (N + 1) 0)) := row?_alloc_at _ _ _ _ (by simp)
  have b4 : Below w1.heap.size w1 ((w3.setCell ⟨w1.heap.size + 1, 7, none⟩ (.slice (some ⟨w3.heap.size, 0, none⟩) (N + 1) (N + 1))).alloc (.cells (bvs (List.replicate (N + 1) 0)) 5)) := (C3.out.setCell (p := ⟨w1.heap.size + 1, 7, none⟩) (by simp) _).alloc (by simpa using C3.out.size) _
  generalize ((w3.setCell ⟨w1.heap.size + 1, 7, none⟩ (.slice (some ⟨w3.heap.size, 0, none⟩) (N + 1) (N + 1))).alloc (.cells (bvs (List.replicate (N + 1) 0)) 5)) = w4 at g4 z4 b4 ⊢
  have szG : G.size = 10 := by rw [← hGG]; rfl
  have le4 := rldFF w4 (w1.heap.size + 1) (by rw [g4, Option.map_some, szG])
  rw [g4] at le4
  have le4' : (loadAgg 28 (.pointer (some ⟨w1.heap.size + 1, 0, none⟩))).run Try.prog w4 = .ok (.agg G) w4 := le4
  have hm4 := rmay_stream id off (N + 1) false (some ⟨w3.heap.size, 0, none⟩) (N + 1) w4
  rw [hGG] at hm4
  have HM4 := Lib.hid hm4
  have HGG := Lib.hid hGG
  have Z4 := Lib.hid z4
  have G4 := Lib.hid g4
  have B4 := Lib.hid (B1.out.trans (b4.mono B1.out.size))
  clear hG g4 z4 b4 le4 ll hm4 hGG
  go_wp2_with fail
  refine HM4.out.mono ?_
  by_cases hmay : N + 1 < 16384 ∧ id < 4611686018427387904 ∧ off + (N + 1) < 4611686018427387904
  case neg =>
    rw [decide_eq_false hmay]
    rintro e w5 ⟨rfl, b5⟩
    have B5 := Lib.hid (B4.out.trans (b5.mono B4.out.size))
    clear b5 hmay le4'
    go_wp2_with fail
    refine (awake_any _).mono ?_
    rintro e w6 ⟨rfl, b6⟩
    have B6 := Lib.hid (B5.out.trans (b6.mono B5.out.size))
    clear b6
    go_wp2_with fail
    go_ret
    exact ⟨rfl, B6.out⟩
  rw [decide_eq_true hmay]
  rintro e w5 ⟨rfl, b5⟩
  have G5 := Lib.hid (show row? w5 (w1.heap.size + 1) = some G by rw [row?_below b5 (row?_lt G4.out)]; exact G4.out)
  have Z5 := Lib.hid (show row? w5 w3.heap.size = some (bvs (List.replicate (N + 1) 0)) by rw [row?_below b5 (row?_lt Z4.out)]; exact Z4.out)
  have B5 := Lib.hid (B4.out.trans (b5.mono B4.out.size))
  have le5 := rldFF w5 (w1.heap.size + 1) (by rw [G5.out, Option.map_some, szG])
  rw [G5.out] at le5
  have le5' : (loadAgg 28 (.pointer (some ⟨w1.heap.size + 1, 0, none⟩))).run Try.prog w5 = .ok (.agg G) w5 := le5
  clear le5 le4' b5
  go_wp2_with fail
  have sz5 := Sl.row Z5.out
  rw [List.length_replicate] at sz5
  have hpt5 := rput_stream id off hi (List.replicate (N + 1) 0) (by rw [List.length_replicate]; exact hmay.1) (by rw [List.length_replicate]; exact hmay.2.2) (some ⟨w3.heap.size, 0, none⟩) (N + 1) w5
  rw [List.length_replicate, HGG.out] at hpt5
  refine (hpt5 sz5).mono ?_
  rintro e w6 ⟨v6, rfl, s6, b6⟩
  obtain ⟨q6, hq6⟩ : ∃ q6, (14 :: (vin id (vlen id) ++ vin off (vlen off) ++ vin (N + 1) (vlen (N + 1)) ++ List.replicate (N + 1) 0) : List UInt8) = q6 := ⟨_, rfl⟩
  rw [hq6] at s6
  have hl6 : q6.length = 1 + vlen id + vlen off + vlen (N + 1) + (N + 1) := by rw [← hq6]; simp [vin_length]; omega
  have hgt : room < (q6.length : Int) := by have := HQ.out; omega
  obtain ⟨a6, e6, rfl, -, -, -⟩ := s6
  have B6 := Lib.hid (B5.out.trans (b6.mono B5.out.size))
  clear hq6 b6 le5' sz5 hpt5 hl6 hmay
  go_wp2_with fail
  refine (awake_any _).mono ?_
  rintro e w7 ⟨rfl, b7⟩
  have B7 := Lib.hid (B6.out.trans (b7.mono B6.out.size))
  clear b7
  go_wp2_with fail
  go_ret
  exact ⟨rfl, B7.out⟩
end Go.Proofs.Ytipniobgijdlkaa
