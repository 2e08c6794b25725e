/- HdrW6; HdrL1. -/
import Derived.Test.YtjlpppnpdgenfaaMva5
import Derived.Test.YtjlpppnpdgenfaaMvaHdrW1
import Derived.Test.YtjlpppnpdgenfaaMvaHdrW4
import Derived.Test.YtjlpppnpdgenfaaMvaHdrW5
section
/- The walk of two headers held against one another. -/
namespace Go.Proofs.Ytjlpppnpdgenfaa
open Go.RowKit Go.Rw Hdr
attribute [local go_sem ↓] ldH stH alH bdR bdH hvA_0 hvA_1 hvA_2 hvA_3 hvA_4 hvA_5 hvA_6 hvA_7 hvA_8 hvA_9
attribute [local go_sem] rldH rstH ralH setRow_alloc_at setRow_alloc_past setRow_drew

set_option maxRecDepth 100000 in
set_option maxHeartbeats 4000000 in
/-- Two short headers that are the same are told to be. -/
theorem sameHeader_short (spin phase : Bool) (num nl : Nat) (dst : List UInt8) (hd : dst.length ≤ 1000000) (va vb : Value) (w : World) (ha : Sl w va dst) (hb : Sl w vb dst) :
    Calls Try.prog 17 #[.agg (hvA false 0 0 va (.slice none 0 0) (.slice none 0 0) spin phase num nl), .agg (hvA false 0 0 vb (.slice none 0 0) (.slice none 0 0) spin phase num nl)] w fun e w' => e = .returned (.bool true) ∧ Below w.heap.size w w' := by
  obtain ⟨aa, ca, rfl, -, -, -⟩ := id ha
  obtain ⟨ab, cb, rfl, -, -, -⟩ := id hb
  unfold hvA
  go_enter Try.func17, Try.ntmps17
  have hb0 : Below w.heap.size w ((w.alloc (.cells #[.bool false, .int .i64 0, .int .u32 0, .slice aa dst.length ca, .slice none 0 0, .slice none 0 0, .bool spin, .bool phase, .int .u64 (num : Nat), .int .i64 (nl : Nat)] 30)).alloc (.cells #[.bool false, .int .i64 0, .int .u32 0, .slice ab dst.length cb, .slice none 0 0, .slice none 0 0, .bool spin, .bool phase, .int .u64 (num : Nat), .int .i64 (nl : Nat)] 30)) := bel2 _ _ _
  have pr0 : row? ((w.alloc (.cells #[.bool false, .int .i64 0, .int .u32 0, .slice aa dst.length ca, .slice none 0 0, .slice none 0 0, .bool spin, .bool phase, .int .u64 (num : Nat), .int .i64 (nl : Nat)] 30)).alloc (.cells #[.bool false, .int .i64 0, .int .u32 0, .slice ab dst.length cb, .slice none 0 0, .slice none 0 0, .bool spin, .bool phase, .int .u64 (num : Nat), .int .i64 (nl : Nat)] 30)) w.heap.size = some #[.bool false, .int .i64 0, .int .u32 0, .slice aa dst.length ca, .slice none 0 0, .slice none 0 0, .bool spin, .bool phase, .int .u64 (num : Nat), .int .i64 (nl : Nat)] := by rw [row?_alloc_past _ _ _ (by simp)]; exact row?_alloc_at _ _ _ _ rfl
  have qr0 : row? ((w.alloc (.cells #[.bool false, .int .i64 0, .int .u32 0, .slice aa dst.length ca, .slice none 0 0, .slice none 0 0, .bool spin, .bool phase, .int .u64 (num : Nat), .int .i64 (nl : Nat)] 30)).alloc (.cells #[.bool false, .int .i64 0, .int .u32 0, .slice ab dst.length cb, .slice none 0 0, .slice none 0 0, .bool spin, .bool phase, .int .u64 (num : Nat), .int .i64 (nl : Nat)] 30)) (w.heap.size + 1) = some #[.bool false, .int .i64 0, .int .u32 0, .slice ab dst.length cb, .slice none 0 0, .slice none 0 0, .bool spin, .bool phase, .int .u64 (num : Nat), .int .i64 (nl : Nat)] := row?_alloc_at _ _ _ _ (by simp)
  have P0 := Lib.hid pr0
  have Q0 := Lib.hid qr0
  clear pr0 qr0
  go_wp2_with fail
  refine (same_any dst dst hd _ _ _ (ha.below hb0) (hb.below hb0)).mono ?_
  rintro e w1 ⟨rfl, b1⟩
  rw [decide_eq_true rfl]
  have pr1 := Rg.stable_row b1 P0.out
  have qr1 := Rg.stable_row b1 Q0.out
  have hb1 : Below w.heap.size w w1 := hb0.trans (b1.mono (by simp; omega))
  clear b1 P0 Q0 hb0
  have p4_1 : w1.cell? ⟨w.heap.size, 4, none⟩ = some (.slice none 0 0) := row?_cell pr1 4
  have p5_1 : w1.cell? ⟨w.heap.size, 5, none⟩ = some (.slice none 0 0) := row?_cell pr1 5
  have p6_1 : w1.cell? ⟨w.heap.size, 6, none⟩ = some (.bool spin) := row?_cell pr1 6
  have p7_1 : w1.cell? ⟨w.heap.size, 7, none⟩ = some (.bool phase) := row?_cell pr1 7
  have p8_1 : w1.cell? ⟨w.heap.size, 8, none⟩ = some (.int .u64 (num : Nat)) := row?_cell pr1 8
  have p9_1 : w1.cell? ⟨w.heap.size, 9, none⟩ = some (.int .i64 (nl : Nat)) := row?_cell pr1 9
  have q4_1 : w1.cell? ⟨w.heap.size + 1, 4, none⟩ = some (.slice none 0 0) := row?_cell qr1 4
  have q5_1 : w1.cell? ⟨w.heap.size + 1, 5, none⟩ = some (.slice none 0 0) := row?_cell qr1 5
  have q6_1 : w1.cell? ⟨w.heap.size + 1, 6, none⟩ = some (.bool spin) := row?_cell qr1 6
  have q7_1 : w1.cell? ⟨w.heap.size + 1, 7, none⟩ = some (.bool phase) := row?_cell qr1 7
  have q8_1 : w1.cell? ⟨w.heap.size + 1, 8, none⟩ = some (.int .u64 (num : Nat)) := row?_cell qr1 8
  have q9_1 : w1.cell? ⟨w.heap.size + 1, 9, none⟩ = some (.int .i64 (nl : Nat)) := row?_cell qr1 9
  have P1 := Lib.hid pr1
  have Q1 := Lib.hid qr1
  clear pr1 qr1
  go_wp2_with fail
  refine (same_any [] [] (by simp) _ _ _ (Sl.nil _) (Sl.nil _)).mono ?_
  rintro e w2 ⟨rfl, b2⟩
  rw [decide_eq_true rfl]
  have pr2 := Rg.stable_row b2 P1.out
  have qr2 := Rg.stable_row b2 Q1.out
  have hb2 : Below w.heap.size w w2 := hb1.trans (b2.mono hb1.size)
  clear b2 P1 Q1 p4_1 p5_1 p6_1 p7_1 p8_1 p9_1 q4_1 q5_1 q6_1 q7_1 q8_1 q9_1
  have p4_2 : w2.cell? ⟨w.heap.size, 4, none⟩ = some (.slice none 0 0) := row?_cell pr2 4
  have p5_2 : w2.cell? ⟨w.heap.size, 5, none⟩ = some (.slice none 0 0) := row?_cell pr2 5
  have p6_2 : w2.cell? ⟨w.heap.size, 6, none⟩ = some (.bool spin) := row?_cell pr2 6
  have p7_2 : w2.cell? ⟨w.heap.size, 7, none⟩ = some (.bool phase) := row?_cell pr2 7
  have p8_2 : w2.cell? ⟨w.heap.size, 8, none⟩ = some (.int .u64 (num : Nat)) := row?_cell pr2 8
  have p9_2 : w2.cell? ⟨w.heap.size, 9, none⟩ = some (.int .i64 (nl : Nat)) := row?_cell pr2 9
  have q4_2 : w2.cell? ⟨w.heap.size + 1, 4, none⟩ = some (.slice none 0 0) := row?_cell qr2 4
  have q5_2 : w2.cell? ⟨w.heap.size + 1, 5, none⟩ = some (.slice none 0 0) := row?_cell qr2 5
  have q6_2 : w2.cell? ⟨w.heap.size + 1, 6, none⟩ = some (.bool spin) := row?_cell qr2 6
  have q7_2 : w2.cell? ⟨w.heap.size + 1, 7, none⟩ = some (.bool phase) := row?_cell qr2 7
  have q8_2 : w2.cell? ⟨w.heap.size + 1, 8, none⟩ = some (.int .u64 (num : Nat)) := row?_cell qr2 8
  have q9_2 : w2.cell? ⟨w.heap.size + 1, 9, none⟩ = some (.int .i64 (nl : Nat)) := row?_cell qr2 9
  have P2 := Lib.hid pr2
  have Q2 := Lib.hid qr2
  clear pr2 qr2
  go_wp2_with fail
  refine (same_any [] [] (by simp) _ _ _ (Sl.nil _) (Sl.nil _)).mono ?_
  rintro e w3 ⟨rfl, b3⟩
  rw [decide_eq_true rfl]
  have pr3 := Rg.stable_row b3 P2.out
  have qr3 := Rg.stable_row b3 Q2.out
  have hb3 : Below w.heap.size w w3 := hb2.trans (b3.mono hb2.size)
  clear b3 P2 Q2 p4_2 p5_2 p6_2 p7_2 p8_2 p9_2 q4_2 q5_2 q6_2 q7_2 q8_2 q9_2
  have p4_3 : w3.cell? ⟨w.heap.size, 4, none⟩ = some (.slice none 0 0) := row?_cell pr3 4
  have p5_3 : w3.cell? ⟨w.heap.size, 5, none⟩ = some (.slice none 0 0) := row?_cell pr3 5
  have p6_3 : w3.cell? ⟨w.heap.size, 6, none⟩ = some (.bool spin) := row?_cell pr3 6
  have p7_3 : w3.cell? ⟨w.heap.size, 7, none⟩ = some (.bool phase) := row?_cell pr3 7
  have p8_3 : w3.cell? ⟨w.heap.size, 8, none⟩ = some (.int .u64 (num : Nat)) := row?_cell pr3 8
  have p9_3 : w3.cell? ⟨w.heap.size, 9, none⟩ = some (.int .i64 (nl : Nat)) := row?_cell pr3 9
  have q4_3 : w3.cell? ⟨w.heap.size + 1, 4, none⟩ = some (.slice none 0 0) := row?_cell qr3 4
  have q5_3 : w3.cell? ⟨w.heap.size + 1, 5, none⟩ = some (.slice none 0 0) := row?_cell qr3 5
  have q6_3 : w3.cell? ⟨w.heap.size + 1, 6, none⟩ = some (.bool spin) := row?_cell qr3 6
  have q7_3 : w3.cell? ⟨w.heap.size + 1, 7, none⟩ = some (.bool phase) := row?_cell qr3 7
  have q8_3 : w3.cell? ⟨w.heap.size + 1, 8, none⟩ = some (.int .u64 (num : Nat)) := row?_cell qr3 8
  have q9_3 : w3.cell? ⟨w.heap.size + 1, 9, none⟩ = some (.int .i64 (nl : Nat)) := row?_cell qr3 9
  go_wp2_with fail
  go_ret
  exact ⟨by simp, hb3⟩
end Go.Proofs.Ytjlpppnpdgenfaa
end
section
/- What every program answers that is one: package header's own row, walked. -/
namespace Go.Proofs.Ytjlpppnpdgenfaa
open Go.RowKit Go.Rw Hdr Aes
theorem buildAw (ao : Option Addr) (m cap : Nat) (w : World) : (buildP 30 #[(3, .slice ao m cap), (8, .int .u64 5), (9, .int .i64 2), (6, .bool true)]).run Try.prog w = .ok (.agg (hvA false 0 0 (.slice ao m cap) (.slice none 0 0) (.slice none 0 0) true false 5 2)) w := Go.run_build w _ _ _ (by kernel_rfl)
attribute [local go_sem ↓] ldH stH alH bdR bdH hvA_0 hvA_1 hvA_2 hvA_3 hvA_4 hvA_5 hvA_6 hvA_7 hvA_8 hvA_9
attribute [local go_sem] rldH rstH ralH setRow_alloc_at setRow_alloc_past setRow_drew buildAw buildH0
def aw : List UInt8 := [97, 0, 0, 0, 0, 0, 0, 0, 0, 0, 5]
theorem aw_put : [first true false 2] ++ List.replicate 8 0 ++ be 5 2 = aw := by decide
theorem aw_get : aw = [97] ++ List.replicate 8 0 ++ [0, 5] := by decide
theorem aw_num : num ([0, 5] : List UInt8) = 5 := by decide
theorem aw_full : full 39730 2 2821665002 true = 2821692210 := by decide
theorem aw_cut : cut 11295746 11266227 true = 2 := by decide

end Go.Proofs.Ytjlpppnpdgenfaa
end
