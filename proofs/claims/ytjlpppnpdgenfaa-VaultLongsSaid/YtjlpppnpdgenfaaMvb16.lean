/- HdrW14; HdrT2. -/
import Derived.Test.YtjlpppnpdgenfaaMvb5
import Derived.Test.YtjlpppnpdgenfaaMvbHdrT1
import Derived.Test.YtjlpppnpdgenfaaMvbHdrW4
import Derived.Test.YtjlpppnpdgenfaaMvbHdrW12
section
namespace Go.Proofs.Ytjlpppnpdgenfaa
open Go.RowKit Go.Rw Hdr
attribute [local go_sem ↓] ldH stH alH bdR bdH hvA_0 hvA_1 hvA_2 hvA_3 hvA_4 hvA_5 hvA_6 hvA_7 hvA_8 hvA_9
attribute [local go_sem] rldH rstH ralH setRow_alloc_at setRow_alloc_past setRow_drew
set_option maxRecDepth 100000 in
set_option maxHeartbeats 4000000 in
theorem sameHeader_eq (lg : Bool) (kind : Int) (ver : Nat) (spin phase : Bool) (num : Nat) (nl : Int) (dst src tok : List UInt8) (hd : dst.length ≤ 1000000) (hs : src.length ≤ 1000000) (ht : tok.length ≤ 1000000) (vd vs vt ud us ut : Value) (w : World) (ha : Sl w vd dst) (hb : Sl w ud dst) (hc : Sl w vs src) (he : Sl w us src) (hf : Sl w vt tok) (hg : Sl w ut tok) :
  Calls Try.prog 17 #[.agg (hvA lg kind ver vd vs vt spin phase num nl), .agg (hvA lg kind ver ud us ut spin phase num nl)] w fun e w' => e = .returned (.bool true) ∧ Below w.heap.size w w' := by
 obtain ⟨ad, cd, rfl, -, -, -⟩ := id ha
 obtain ⟨bd, dd, rfl, -, -, -⟩ := id hb
 obtain ⟨as_, cs, rfl, -, -, -⟩ := id hc
 obtain ⟨bs, ds, rfl, -, -, -⟩ := id he
 obtain ⟨at_, ct, rfl, -, -, -⟩ := id hf
 obtain ⟨bt, dt, rfl, -, -, -⟩ := id hg
 have HL := Lib.hid (And.intro hd (And.intro hs ht))
 clear hd hs ht
 unfold hvA
 go_enter Try.func17, Try.ntmps17
 have hb0 : Below w.heap.size w ((w.alloc (.cells #[.bool lg, .int .i64 kind, .int .u32 (ver : Nat), .slice ad dst.length cd, .slice as_ src.length cs, .slice at_ tok.length ct, .bool spin, .bool phase, .int .u64 (num : Nat), .int .i64 nl] 30)).alloc (.cells #[.bool lg, .int .i64 kind, .int .u32 (ver : Nat), .slice bd dst.length dd, .slice bs src.length ds, .slice bt tok.length dt, .bool spin, .bool phase, .int .u64 (num : Nat), .int .i64 nl] 30)) := bel2 _ _ _
 have pr0 : row? ((w.alloc (.cells #[.bool lg, .int .i64 kind, .int .u32 (ver : Nat), .slice ad dst.length cd, .slice as_ src.length cs, .slice at_ tok.length ct, .bool spin, .bool phase, .int .u64 (num : Nat), .int .i64 nl] 30)).alloc (.cells #[.bool lg, .int .i64 kind, .int .u32 (ver : Nat), .slice bd dst.length dd, .slice bs src.length ds, .slice bt tok.length dt, .bool spin, .bool phase, .int .u64 (num : Nat), .int .i64 nl] 30)) w.heap.size = some #[.bool lg, .int .i64 kind, .int .u32 (ver : Nat), .slice ad dst.length cd, .slice as_ src.length cs, .slice at_ tok.length ct, .bool spin, .bool phase, .int .u64 (num : Nat), .int .i64 nl] := by rw [row?_alloc_past _ _ _ (by simp)]; exact row?_alloc_at _ _ _ _ rfl
 have qr0 : row? ((w.alloc (.cells #[.bool lg, .int .i64 kind, .int .u32 (ver : Nat), .slice ad dst.length cd, .slice as_ src.length cs, .slice at_ tok.length ct, .bool spin, .bool phase, .int .u64 (num : Nat), .int .i64 nl] 30)).alloc (.cells #[.bool lg, .int .i64 kind, .int .u32 (ver : Nat), .slice bd dst.length dd, .slice bs src.length ds, .slice bt tok.length dt, .bool spin, .bool phase, .int .u64 (num : Nat), .int .i64 nl] 30)) (w.heap.size + 1) = some #[.bool lg, .int .i64 kind, .int .u32 (ver : Nat), .slice bd dst.length dd, .slice bs src.length ds, .slice bt tok.length dt, .bool spin, .bool phase, .int .u64 (num : Nat), .int .i64 nl] := row?_alloc_at _ _ _ _ (by simp)
 have P0 := Lib.hid pr0
 have Q0 := Lib.hid qr0
 have SA := Lib.hid ha
 have SB := Lib.hid hb
 have SC := Lib.hid hc
 have SE := Lib.hid he
 have SF := Lib.hid hf
 have SG := Lib.hid hg
 clear pr0 qr0 ha hb hc he hf hg
 go_wp2_with fail
 refine (same_any dst dst HL.out.1 _ _ _ (SA.out.below hb0) (SB.out.below hb0)).mono ?_
 rintro e w1 ⟨rfl, b1⟩
 rw [decide_eq_true rfl]
 have pr1 := Rg.stable_row b1 P0.out
 have qr1 := Rg.stable_row b1 Q0.out
 have hb1 : Below w.heap.size w w1 := hb0.trans (b1.mono (by simp; omega))
 clear b1 P0 Q0 hb0
 have p0_1 : w1.cell? ⟨w.heap.size, 0, none⟩ = some (.bool lg) := row?_cell pr1 0
 have p1_1 : w1.cell? ⟨w.heap.size, 1, none⟩ = some (.int .i64 kind) := row?_cell pr1 1
 have p2_1 : w1.cell? ⟨w.heap.size, 2, none⟩ = some (.int .u32 (ver : Nat)) := row?_cell pr1 2
 have p4_1 : w1.cell? ⟨w.heap.size, 4, none⟩ = some (.slice as_ src.length cs) := row?_cell pr1 4
 have p5_1 : w1.cell? ⟨w.heap.size, 5, none⟩ = some (.slice at_ tok.length ct) := row?_cell pr1 5
 have p6_1 : w1.cell? ⟨w.heap.size, 6, none⟩ = some (.bool spin) := row?_cell pr1 6
 have p7_1 : w1.cell? ⟨w.heap.size, 7, none⟩ = some (.bool phase) := row?_cell pr1 7
 have p8_1 : w1.cell? ⟨w.heap.size, 8, none⟩ = some (.int .u64 (num : Nat)) := row?_cell pr1 8
 have p9_1 : w1.cell? ⟨w.heap.size, 9, none⟩ = some (.int .i64 nl) := row?_cell pr1 9
 have q0_1 : w1.cell? ⟨w.heap.size + 1, 0, none⟩ = some (.bool lg) := row?_cell qr1 0
 have q1_1 : w1.cell? ⟨w.heap.size + 1, 1, none⟩ = some (.int .i64 kind) := row?_cell qr1 1
 have q2_1 : w1.cell? ⟨w.heap.size + 1, 2, none⟩ = some (.int .u32 (ver : Nat)) := row?_cell qr1 2
 have q4_1 : w1.cell? ⟨w.heap.size + 1, 4, none⟩ = some (.slice bs src.length ds) := row?_cell qr1 4
 have q5_1 : w1.cell? ⟨w.heap.size + 1, 5, none⟩ = some (.slice bt tok.length dt) := row?_cell qr1 5
 have q6_1 : w1.cell? ⟨w.heap.size + 1, 6, none⟩ = some (.bool spin) := row?_cell qr1 6
 have q7_1 : w1.cell? ⟨w.heap.size + 1, 7, none⟩ = some (.bool phase) := row?_cell qr1 7
 have q8_1 : w1.cell? ⟨w.heap.size + 1, 8, none⟩ = some (.int .u64 (num : Nat)) := row?_cell qr1 8
 have q9_1 : w1.cell? ⟨w.heap.size + 1, 9, none⟩ = some (.int .i64 nl) := row?_cell qr1 9
 have P1 := Lib.hid pr1
 have Q1 := Lib.hid qr1
 clear pr1 qr1
 go_wp2_with fail
 refine (same_any src src HL.out.2.1 _ _ _ (SC.out.below hb1) (SE.out.below hb1)).mono ?_
 rintro e w2 ⟨rfl, b2⟩
 rw [decide_eq_true rfl]
 have pr2 := Rg.stable_row b2 P1.out
 have qr2 := Rg.stable_row b2 Q1.out
 have hb2 : Below w.heap.size w w2 := hb1.trans (b2.mono hb1.size)
 clear b2 P1 Q1 p0_1 p1_1 p2_1 p4_1 p5_1 p6_1 p7_1 p8_1 p9_1 q0_1 q1_1 q2_1 q4_1 q5_1 q6_1 q7_1 q8_1 q9_1
 have p0_2 : w2.cell? ⟨w.heap.size, 0, none⟩ = some (.bool lg) := row?_cell pr2 0
 have p1_2 : w2.cell? ⟨w.heap.size, 1, none⟩ = some (.int .i64 kind) := row?_cell pr2 1
 have p2_2 : w2.cell? ⟨w.heap.size, 2, none⟩ = some (.int .u32 (ver : Nat)) := row?_cell pr2 2
 have p4_2 : w2.cell? ⟨w.heap.size, 4, none⟩ = some (.slice as_ src.length cs) := row?_cell pr2 4
 have p5_2 : w2.cell? ⟨w.heap.size, 5, none⟩ = some (.slice at_ tok.length ct) := row?_cell pr2 5
 have p6_2 : w2.cell? ⟨w.heap.size, 6, none⟩ = some (.bool spin) := row?_cell pr2 6
 have p7_2 : w2.cell? ⟨w.heap.size, 7, none⟩ = some (.bool phase) := row?_cell pr2 7
 have p8_2 : w2.cell? ⟨w.heap.size, 8, none⟩ = some (.int .u64 (num : Nat)) := row?_cell pr2 8
 have p9_2 : w2.cell? ⟨w.heap.size, 9, none⟩ = some (.int .i64 nl) := row?_cell pr2 9
 have q0_2 : w2.cell? ⟨w.heap.size + 1, 0, none⟩ = some (.bool lg) := row?_cell qr2 0
 have q1_2 : w2.cell? ⟨w.heap.size + 1, 1, none⟩ = some (.int .i64 kind) := row?_cell qr2 1
 have q2_2 : w2.cell? ⟨w.heap.size + 1, 2, none⟩ = some (.int .u32 (ver : Nat)) := row?_cell qr2 2
 have q4_2 : w2.cell? ⟨w.heap.size + 1, 4, none⟩ = some (.slice bs src.length ds) := row?_cell qr2 4
 have q5_2 : w2.cell? ⟨w.heap.size + 1, 5, none⟩ = some (.slice bt tok.length dt) := row?_cell qr2 5
 have q6_2 : w2.cell? ⟨w.heap.size + 1, 6, none⟩ = some (.bool spin) := row?_cell qr2 6
 have q7_2 : w2.cell? ⟨w.heap.size + 1, 7, none⟩ = some (.bool phase) := row?_cell qr2 7
 have q8_2 : w2.cell? ⟨w.heap.size + 1, 8, none⟩ = some (.int .u64 (num : Nat)) := row?_cell qr2 8
 have q9_2 : w2.cell? ⟨w.heap.size + 1, 9, none⟩ = some (.int .i64 nl) := row?_cell qr2 9
 have P2 := Lib.hid pr2
 have Q2 := Lib.hid qr2
 clear pr2 qr2
 go_wp2_with fail
 refine (same_any tok tok HL.out.2.2 _ _ _ (SF.out.below hb2) (SG.out.below hb2)).mono ?_
 rintro e w3 ⟨rfl, b3⟩
 rw [decide_eq_true rfl]
 have pr3 := Rg.stable_row b3 P2.out
 have qr3 := Rg.stable_row b3 Q2.out
 have hb3 : Below w.heap.size w w3 := hb2.trans (b3.mono hb2.size)
 clear b3 P2 Q2 p0_2 p1_2 p2_2 p4_2 p5_2 p6_2 p7_2 p8_2 p9_2 q0_2 q1_2 q2_2 q4_2 q5_2 q6_2 q7_2 q8_2 q9_2
 have p0_3 : w3.cell? ⟨w.heap.size, 0, none⟩ = some (.bool lg) := row?_cell pr3 0
 have p1_3 : w3.cell? ⟨w.heap.size, 1, none⟩ = some (.int .i64 kind) := row?_cell pr3 1
 have p2_3 : w3.cell? ⟨w.heap.size, 2, none⟩ = some (.int .u32 (ver : Nat)) := row?_cell pr3 2
 have p4_3 : w3.cell? ⟨w.heap.size, 4, none⟩ = some (.slice as_ src.length cs) := row?_cell pr3 4
 have p5_3 : w3.cell? ⟨w.heap.size, 5, none⟩ = some (.slice at_ tok.length ct) := row?_cell pr3 5
 have p6_3 : w3.cell? ⟨w.heap.size, 6, none⟩ = some (.bool spin) := row?_cell pr3 6
 have p7_3 : w3.cell? ⟨w.heap.size, 7, none⟩ = some (.bool phase) := row?_cell pr3 7
 have p8_3 : w3.cell? ⟨w.heap.size, 8, none⟩ = some (.int .u64 (num : Nat)) := row?_cell pr3 8
 have p9_3 : w3.cell? ⟨w.heap.size, 9, none⟩ = some (.int .i64 nl) := row?_cell pr3 9
 have q0_3 : w3.cell? ⟨w.heap.size + 1, 0, none⟩ = some (.bool lg) := row?_cell qr3 0
 have q1_3 : w3.cell? ⟨w.heap.size + 1, 1, none⟩ = some (.int .i64 kind) := row?_cell qr3 1
 have q2_3 : w3.cell? ⟨w.heap.size + 1, 2, none⟩ = some (.int .u32 (ver : Nat)) := row?_cell qr3 2
 have q4_3 : w3.cell? ⟨w.heap.size + 1, 4, none⟩ = some (.slice bs src.length ds) := row?_cell qr3 4
 have q5_3 : w3.cell? ⟨w.heap.size + 1, 5, none⟩ = some (.slice bt tok.length dt) := row?_cell qr3 5
 have q6_3 : w3.cell? ⟨w.heap.size + 1, 6, none⟩ = some (.bool spin) := row?_cell qr3 6
 have q7_3 : w3.cell? ⟨w.heap.size + 1, 7, none⟩ = some (.bool phase) := row?_cell qr3 7
 have q8_3 : w3.cell? ⟨w.heap.size + 1, 8, none⟩ = some (.int .u64 (num : Nat)) := row?_cell qr3 8
 have q9_3 : w3.cell? ⟨w.heap.size + 1, 9, none⟩ = some (.int .i64 nl) := row?_cell qr3 9
 go_wp2_with fail
 go_ret
 exact ⟨by simp, hb3⟩
end Go.Proofs.Ytjlpppnpdgenfaa

end
section
namespace Go.Proofs.Ytjlpppnpdgenfaa
open Go.RowKit Go.Rw Hdr
theorem put_ok (lg : Bool) (kind : Int) (ver : Nat) (dst src tok : List UInt8) (sp ph : Bool) (num nl R : Nat) (hm : mayN lg kind ver dst.length src.length tok.length sp ph num nl = true) (hver : ver < 4294967296) (hR : R ≤ 1001) :
  (1 ≤ nl ∧ nl ≤ 4) ∧ num ≤ 4611686018427387903 ∧ dst.length = 8 ∧ src.length ≤ 20 ∧ tok.length ≤ 100 ∧
  ∃ BB : List UInt8, BB.length ≤ 1000 ∧ 1 ≤ BB.length ∧ (∀ z : List UInt8, z.length = R → get (BB ++ z) = (⟨lg, kind, ver, dst, src, tok, sp, ph, num % 256 ^ nl, nl⟩, BB.length, R, 0)) ∧
   ∀ (vd vs vt : Value) (w : World), Sl w vd dst → Sl w vs src → Sl w vt tok → Calls Try.prog 28 #[.agg (hvA lg kind ver vd vs vt sp ph num nl), .int .i64 (R : Nat)] w fun e w' => ∃ v, e = .returned (.tuple #[v, .int .i64 0]) ∧ Sl w' v BB ∧ Below w.heap.size w w' := by
 have hm' := hm
 unfold mayN at hm'
 by_cases h0 : (nl : Int) < 1 ∨ 4 < (nl : Int) ∨ 4611686018427387903 < num ∨ dst.length ≠ 8
 ·rw [if_pos h0] at hm'; cases hm'
 rw [if_neg h0] at hm'
 have h1 : 1 ≤ nl := by omega
 have h4 : nl ≤ 4 := by omega
 have hn : num ≤ 4611686018427387903 := by omega
 have hd : dst.length = 8 := by omega
 cases lg
 ·rw [if_pos rfl] at hm'
  obtain ⟨rfl, rfl, hs, ht⟩ := of_decide_eq_true hm'
  obtain rfl : src = [] := List.eq_nil_of_length_eq_zero hs
  obtain rfl : tok = [] := List.eq_nil_of_length_eq_zero ht
  refine ⟨⟨h1, h4⟩, hn, hd, by simp, by simp, [first sp ph nl] ++ dst ++ be num nl, by simp [be_length, hd]; omega, by simp, ?_, ?_⟩
  ·intro z hz
   rw [get_shortB sp ph dst z num nl hd h1 h4, hz]
   simp [be_length, hd]; omega
  ·intro vd vs vt w h1' h2' h3'
   obtain ⟨as_, cs, rfl, -, -, -⟩ := h2'
   obtain ⟨at_, ct, rfl, -, -, -⟩ := h3'
   exact put_short dst hd vd as_ at_ cs ct sp ph num nl R h1 h4 (by omega) (by omega) (by omega) w h1'
 ·rw [if_neg (by decide)] at hm'
  obtain ⟨hk, hs, ht, rfl, rfl⟩ := of_decide_eq_true hm'
  have hl : (longTok kind tok).length ≤ 108 := by
   unfold longTok; split
   ·have := vlen_le tok.length; simp [vin_length]; omega
   ·simp
  refine ⟨⟨h1, h4⟩, hn, hd, hs, ht, longB kind ver dst src tok num nl R, by unfold longB; simp [be_length, vin_length, hd]; omega, by unfold longB; simp, ?_, ?_⟩
  ·intro z hz
   exact get_longB kind ver dst src tok z num nl R (by rcases hk with h | h; exact .inl h; exact .inr ⟨h.1, List.eq_nil_of_length_eq_zero h.2⟩) hver hd hs ht h1 h4 (by omega) (by omega)
  ·intro vd vs vt w h1' h2' h3'
   refine (put_long kind ver dst src tok vd vs vt num nl R hm hver (by omega) w h1' h2' h3').mono ?_
   rintro e w' ⟨v, rfl, o, b⟩
   exact ⟨v, rfl, Own.sl o, b⟩
end Go.Proofs.Ytjlpppnpdgenfaa

end
