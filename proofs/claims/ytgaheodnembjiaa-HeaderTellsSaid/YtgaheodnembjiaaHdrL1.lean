/- What every program answers that is one: package header's own row, walked. -/
import Derived.Test.YtgaheodnembjiaaHdrW1
import Derived.Test.YtgaheodnembjiaaHdrW4
import Derived.Test.YtgaheodnembjiaaHdrW5
import Derived.Test.YtgaheodnembjiaaHdrW6
namespace Go.Proofs.Ytgaheodnembjiaa
open Go.RowKit Go.Rw Hdr Aes
theorem buildAw (ao : Option Addr) (m cap : Nat) (w : World) : (buildP 26 #[(3, .slice ao m cap), (8, .int .u64 5), (9, .int .i64 2), (6, .bool true)]).run Try.prog w = .ok (.agg (hvA false 0 0 (.slice ao m cap) (.slice none 0 0) (.slice none 0 0) true false 5 2)) w := Go.run_build w _ _ _ (by kernel_rfl)
attribute [local go_sem ↓] ldH stH alH bdR bdH hvA_0 hvA_1 hvA_2 hvA_3 hvA_4 hvA_5 hvA_6 hvA_7 hvA_8 hvA_9
attribute [local go_sem] rldH rstH ralH setRow_alloc_at setRow_alloc_past setRow_drew buildAw buildH0
def aw : List UInt8 := [97, 0, 0, 0, 0, 0, 0, 0, 0, 0, 5]
theorem aw_put : [first true false 2] ++ List.replicate 8 0 ++ be 5 2 = aw := by decide
theorem aw_get : aw = [97] ++ List.replicate 8 0 ++ [0, 5] := by decide
theorem aw_num : num ([0, 5] : List UInt8) = 5 := by decide
theorem aw_full : full 39730 2 2821665002 true = 2821692210 := by decide
theorem aw_cut : cut 11295746 11266227 true = 2 := by decide

set_option maxRecDepth 20000 in
set_option maxHeartbeats 4000000 in
theorem awake_any (w : World) : Calls Try.prog 9 #[] w fun e w' => e = .returned (.bool true) ∧ Below w.heap.size w w' := by
  obtain ⟨i0, hi, hz0, hz1, hz2⟩ := info_parts info8
  go_enter Try.func9, Try.ntmps9
  go_wp2_with (at_make; refine wpList_make_full _ rfl _ _ 23 rfl w.heap.size 5 i0 (.int .u8 0) 1 Try.underlying23 hi hz0 hz1 _ _ _ _ 8 rfl rfl rfl rfl ?b1 ?b2 ?b3 ?_)
  case b1 => rw [hz2]; omega
  case b2 => decide
  case b3 => exact Nat.le_refl _
  intro w1 hown1 hgrow1
  rw [zeros_made] at hown1
  have b1 : Below w.heap.size w w1 := (Below.refl _ _).grown hgrow1 (Nat.le_refl _) (by intro k hk; cases hk)
  have s1 : Sl w1 (.slice (some ⟨w.heap.size, 0, none⟩) 8 8) (List.replicate 8 0) := Own.sl (l := List.replicate 8 0) (by simpa using hown1)
  clear hgrow1 hown1
  have hz1' := b1.size
  have S1 := Lib.hid s1
  clear s1
  go_wp2_with fail
  have s2 : Sl (w1.alloc (.cells (hvA false 0 0 (.slice (some ⟨w.heap.size, 0, none⟩) 8 8) (.slice none 0 0) (.slice none 0 0) true false 5 2) 26)) (.slice (some ⟨w.heap.size, 0, none⟩) 8 8) (List.replicate 8 0) := S1.out.below ((Below.refl _ _).alloc (Nat.le_refl _) _)
  have r2 : row? (w1.alloc (.cells (hvA false 0 0 (.slice (some ⟨w.heap.size, 0, none⟩) 8 8) (.slice none 0 0) (.slice none 0 0) true false 5 2) 26)) w1.heap.size = some (hvA false 0 0 (.slice (some ⟨w.heap.size, 0, none⟩) 8 8) (.slice none 0 0) (.slice none 0 0) true false 5 2) := row?_alloc_at _ _ _ _ rfl
  have b2 : Below w.heap.size w (w1.alloc (.cells (hvA false 0 0 (.slice (some ⟨w.heap.size, 0, none⟩) 8 8) (.slice none 0 0) (.slice none 0 0) true false 5 2) 26)) := b1.alloc b1.size _
  generalize (w1.alloc (.cells (hvA false 0 0 (.slice (some ⟨w.heap.size, 0, none⟩) 8 8) (.slice none 0 0) (.slice none 0 0) true false 5 2) 26)) = W2 at s2 r2 b2 ⊢
  generalize w1.heap.size = Bh at r2 hz1' ⊢
  clear b1 S1
  refine (put_short (List.replicate 8 0) rfl (.slice (some ⟨w.heap.size, 0, none⟩) 8 8) none none 0 0 true false 5 2 0 (by decide) (by decide) (by decide) (by decide) (by decide) W2 s2).mono ?_
  rintro e W3 ⟨vb, rfl, sb, b3⟩
  rw [aw_put] at sb
  have r3 := Rg.stable_row b3 r2
  have s3 := s2.below b3
  have b3' : Below w.heap.size w W3 := b2.trans (b3.mono b2.size)
  obtain ⟨ab, cb, rfl, hcb, -, hpb⟩ := id sb
  obtain ⟨bb, off, rfl, hcell⟩ := hpb (by decide)
  have hc0 : W3.cell? ⟨bb, off, none⟩ = some (.int .u8 97) := hcell 0 (by decide)
  have hbb := cell_lt hc0
  have R3 := Lib.hid r3
  have S3 := Lib.hid s3
  have SB := Lib.hid sb
  have C0 := Lib.hid hc0
  clear b3 r3 s3 b2 r2 s2 hcell hpb hc0 sb
  have hlen : aw.length = 11 := rfl
  go_wp2_with fail
  refine (get_short aw 2 true false 97 (List.replicate 8 0) [0, 5] aw_get rfl (by decide) (by decide) (by decide) (by decide) (by decide) (by decide) (by decide) (by decide) (by decide) (by decide) _ W3 SB.out).mono ?_
  rintro e W4 ⟨vd, rfl, sd, b4⟩
  rw [show num (List.take 2 [0, 5]) = 5 by decide]
  have r4 := Rg.stable_row b4 R3.out
  have s4 := S3.out.below b4
  have hc4 := below_cell b4 C0.out hbb
  have b4' : Below w.heap.size w W4 := b3'.trans (b4.mono b3'.size)
  obtain ⟨ad, cd, rfl, -, -, -⟩ := id sd
  have hB4 := row?_lt r4
  have hbb4 := cell_lt hc4
  have hbA : Below W4.heap.size W4 (W4.alloc (.cells (hvA false 0 0 (.slice ad 8 cd) (.slice none 0 0) (.slice none 0 0) true false 5 2) 26)) := (Below.refl _ _).alloc (Nat.le_refl _) _
  have r5 : row? (W4.alloc (.cells (hvA false 0 0 (.slice ad 8 cd) (.slice none 0 0) (.slice none 0 0) true false 5 2) 26)) Bh = some (hvA false 0 0 (.slice (some ⟨w.heap.size, 0, none⟩) 8 8) (.slice none 0 0) (.slice none 0 0) true false 5 2) := Rg.stable_row hbA r4
  have q5 : row? (W4.alloc (.cells (hvA false 0 0 (.slice ad 8 cd) (.slice none 0 0) (.slice none 0 0) true false 5 2) 26)) W4.heap.size = some (hvA false 0 0 (.slice ad 8 cd) (.slice none 0 0) (.slice none 0 0) true false 5 2) := row?_alloc_at _ _ _ _ rfl
  have c5 : (W4.alloc (.cells (hvA false 0 0 (.slice ad 8 cd) (.slice none 0 0) (.slice none 0 0) true false 5 2) 26)).cell? ⟨bb, off, none⟩ = some (.int .u8 97) := below_cell hbA hc4 hbb4
  have sd5 : Sl (W4.alloc (.cells (hvA false 0 0 (.slice ad 8 cd) (.slice none 0 0) (.slice none 0 0) true false 5 2) 26)) (.slice ad 8 cd) (List.replicate 8 0) := sd.below hbA
  have s5 : Sl (W4.alloc (.cells (hvA false 0 0 (.slice ad 8 cd) (.slice none 0 0) (.slice none 0 0) true false 5 2) 26)) (.slice (some ⟨w.heap.size, 0, none⟩) 8 8) (List.replicate 8 0) := s4.below hbA
  have b5 : Below w.heap.size w (W4.alloc (.cells (hvA false 0 0 (.slice ad 8 cd) (.slice none 0 0) (.slice none 0 0) true false 5 2) 26)) := b4'.trans (hbA.mono b4'.size)
  have R5 := Lib.hid r5
  have Q5 := Lib.hid q5
  have C5 := Lib.hid c5
  have SD := Lib.hid sd5
  have S5 := Lib.hid s5
  have B5 := Lib.hid b5
  clear hbA b4 b3' hc4 r5 q5 c5 s4 sd sd5 s5 b5 b4' r4 R3 S3 SB C0
  have r5 := R5.out
  have q5 := Q5.out
  have c5 := C5.out
  have w5s : (W4.alloc (.cells (hvA false 0 0 (.slice ad 8 cd) (.slice none 0 0) (.slice none 0 0) true false 5 2) 26)).heap.size = W4.heap.size + 1 := by simp
  go_wp2_with fail
  refine (sameHeader_short true false 5 2 (List.replicate 8 0) (by decide) _ _ _ SD.out S5.out).mono ?_
  rintro e W6 ⟨rfl, b6⟩
  have r6 := Rg.stable_row b6 R5.out
  have b6' : Below w.heap.size w W6 := B5.out.trans (b6.mono B5.out.size)
  clear r5 q5 c5 w5s R5 Q5 C5 SD S5 B5 b6
  go_wp2_with fail
  refine (may_short _ _ _ _ _ _ true false 5 2 (by decide) (by decide) (by decide) W6).mono ?_
  rintro e W7 ⟨rfl, b7⟩
  have b7' : Below w.heap.size w W7 := b6'.trans (b7.mono b6'.size)
  clear r6 b7
  go_wp2_with fail
  refine (may_zero W7).mono ?_
  rintro e W8 ⟨rfl, b8⟩
  have b8' : Below w.heap.size w W8 := b7'.trans (b8.mono b7'.size)
  clear b8
  go_wp2_with fail
  refine (full_any 39730 2 2821665002 true (by decide) (by decide) (by decide) (by decide) W8).mono ?_
  rintro e w' ⟨rfl, rfl⟩
  rw [aw_full]
  go_wp2_with fail
  refine (cut_any 11295746 11266227 true (by decide) (by decide) W8).mono ?_
  rintro e w' ⟨rfl, rfl⟩
  rw [aw_cut]
  go_wp2_with fail
  go_ret
  exact ⟨rfl, b8'⟩
end Go.Proofs.Ytgaheodnembjiaa
