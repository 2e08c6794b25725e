/- The walk of package pack's Room; awake of chapter 23's laws. -/
import Derived.Test.YtipniobgijdlkaaPckA
namespace Go.Proofs.Ytipniobgijdlkaa
open Go.RowKit Go.Rw Frm Hdr
attribute [local go_sem ↓] ldFF stFF alFF ldH stH alH bdH
attribute [local go_sem] rldFF rstFF ralFF rldH rstH ralH setRow_alloc_at setRow_alloc_past setRow_drew
set_option maxHeartbeats 1000000 in
theorem room_ok (H : Array Value) (hs : H.size = 10) (n : Nat) (hn : n ≤ 1000) (m : Int) (hm : max (256 - (n : Int) - 16) 0 = m) (w : World)
    (hput : ∀ W, Below w.heap.size w W → Calls Try.prog 24 #[.agg H, .int .i64 16] W fun e w' => ∃ v l, e = .returned (.tuple #[v, .int .i64 0]) ∧ Sl w' v l ∧ l.length = n ∧ Below W.heap.size W w') :
    Calls Try.prog 25 #[.agg H] w fun e w' => e = .returned (.int .i64 m) ∧ Below w.heap.size w w' := by
  have HP := Lib.hid (hput (w.alloc (.cells H 46)) ((Below.refl _ _).alloc (Nat.le_refl _) _))
  have le := rldH (w.alloc (.cells H 46)) w.heap.size (by rw [row?_alloc_at _ _ _ _ rfl, Option.map_some, hs])
  rw [row?_alloc_at _ _ _ _ rfl] at le
  have le' : (loadAgg 46 (.pointer (some ⟨w.heap.size, 0, none⟩))).run Try.prog (w.alloc (.cells H 46)) = .ok (.agg H) (w.alloc (.cells H 46)) := le
  clear le hput
  go_enter Try.func25, Try.ntmps25
  go_wp2_with fail
  refine HP.out.mono ?_
  rintro e w1 ⟨v, l, rfl, hl, hln, b1⟩
  obtain ⟨ao, cap, rfl, -, -, -⟩ := hl
  rw [hln]
  have B1 := Lib.hid (((Below.refl w.heap.size w).alloc (Nat.le_refl _) (.cells H 46)).trans (b1.mono (by simp)))
  have HV := Lib.hid hm
  clear b1 le' hm
  go_wp2_with fail
  go_ret
  exact ⟨congrArg (fun z => Ending.returned (.int .i64 z)) HV.out, B1.out⟩
set_option maxHeartbeats 1000000 in
theorem room_no (H : Array Value) (hs : H.size = 10) (w : World)
    (hput : ∀ W, Below w.heap.size w W → Calls Try.prog 24 #[.agg H, .int .i64 16] W fun e w' => e = .returned (.tuple #[.slice none 0 0, .int .i64 2]) ∧ Below W.heap.size W w') :
    Calls Try.prog 25 #[.agg H] w fun e w' => e = .returned (.int .i64 0) ∧ Below w.heap.size w w' := by
  have HP := Lib.hid (hput (w.alloc (.cells H 46)) ((Below.refl _ _).alloc (Nat.le_refl _) _))
  have le := rldH (w.alloc (.cells H 46)) w.heap.size (by rw [row?_alloc_at _ _ _ _ rfl, Option.map_some, hs])
  rw [row?_alloc_at _ _ _ _ rfl] at le
  have le' : (loadAgg 46 (.pointer (some ⟨w.heap.size, 0, none⟩))).run Try.prog (w.alloc (.cells H 46)) = .ok (.agg H) (w.alloc (.cells H 46)) := le
  clear le hput
  go_enter Try.func25, Try.ntmps25
  go_wp2_with fail
  refine HP.out.mono ?_
  rintro e w1 ⟨rfl, b1⟩
  have B1 := Lib.hid (((Below.refl w.heap.size w).alloc (Nat.le_refl _) (.cells H 46)).trans (b1.mono (by simp)))
  clear b1 le'
  go_wp2_with fail
  go_ret
  exact ⟨rfl, B1.out⟩
theorem hvA_pt (lg : Bool) (kind : Int) (ver : Nat) (vd vs vt : Value) (sp ph : Bool) (num : Nat) (nl : Int) : (hvA lg kind ver vd vs vt sp ph num nl).size = 10 := by simp [hvA]
/-- Room of a short header. -/
theorem room_short (dst : List UInt8) (hd : dst.length = 8) (vd : Value) (nl : Nat) (h1 : 1 ≤ nl) (h4 : nl ≤ 4) (w : World) (hs : Sl w vd dst) :
    Calls Try.prog 25 #[.agg (hvA false 0 0 vd (.slice none 0 0) (.slice none 0 0) false false 0 nl)] w fun e w' => e = .returned (.int .i64 (231 - nl)) ∧ Below w.heap.size w w' := by
  have := room_ok (hvA false 0 0 vd (.slice none 0 0) (.slice none 0 0) false false 0 nl) (hvA_pt _ _ _ _ _ _ _ _ _ _) (9 + nl) (by omega) (231 - nl) (by omega) w (fun W hW => (put_short dst hd vd none none 0 0 false false 0 nl 16 h1 h4 (by decide) (by omega) (by omega) W (hs.below hW)).mono (by
    rintro e w' ⟨v, rfl, hv, hb⟩
    exact ⟨v, _, rfl, hv, by simp [hd, be]; omega, hb⟩))
  exact this
theorem long_len (dst src tok : List UInt8) (nl : Nat) (hd : dst.length = 8) (htl : tok.length < 60) : (longB 0 0 dst src tok 0 nl 16).length = 18 + src.length + tok.length + nl := by
  have hv : vlen tok.length = 1 := by unfold vlen; rw [if_pos (by omega)]
  simp [longB, longTok, be, vin_length, hd, hv]
  omega
/-- Room of a long one. -/
theorem room_long (dst src tok : List UInt8) (vd vs vt : Value) (nl : Nat) (hd : dst.length = 8) (hsl : src.length ≤ 20) (htl : tok.length < 60) (h1 : 1 ≤ nl) (h4 : nl ≤ 4) (w : World) (sd : Sl w vd dst) (ss : Sl w vs src) (st : Sl w vt tok) :
    Calls Try.prog 25 #[.agg (hvA true 0 0 vd vs vt false false 0 nl)] w fun e w' => e = .returned (.int .i64 (222 - nl - src.length - tok.length)) ∧ Below w.heap.size w w' := by
  have hm : mayN true 0 0 dst.length src.length tok.length false false 0 nl = true := by
    unfold mayN
    rw [if_neg (by omega), if_neg (by decide)]
    simp; omega
  have hlen := long_len dst src tok nl hd htl
  have := room_ok (hvA true 0 0 vd vs vt false false 0 nl) (hvA_pt _ _ _ _ _ _ _ _ _ _) (18 + src.length + tok.length + nl) (by omega) (222 - nl - src.length - tok.length) (by omega) w (fun W hW => (put_long 0 0 dst src tok vd vs vt 0 nl 16 hm (by omega) (by omega) W (sd.below hW) (ss.below hW) (st.below hW)).mono (by
    rintro e w' ⟨v, rfl, hv, hb⟩
    exact ⟨v, _, rfl, Own.sl hv, hlen, hb⟩))
  exact this
theorem room_none (nl : Nat) (w : World) :
    Calls Try.prog 25 #[.agg (hvA false 0 0 (.slice none 0 0) (.slice none 0 0) (.slice none 0 0) false false 0 nl)] w fun e w' => e = .returned (.int .i64 0) ∧ Below w.heap.size w w' :=
  room_no _ (hvA_pt _ _ _ _ _ _ _ _ _ _) w (fun W _ => put_no false 0 0 none none none 0 0 0 0 0 0 false false 0 nl 16 (.inl (by
    unfold mayN
    rw [if_pos (by omega)])) W)
theorem mk8 (w : World) : (Instr.makeSlice 25 (.int .i64 8) (.int .i64 8)).run Try.prog w = .ok (.slice (some ⟨w.heap.size, 0, none⟩) 8 8) (w.alloc (.cells (bvs (Aes.zeros 8)) 5)) := by kernel_rfl
theorem buildH39 (ao : Option Addr) (m cap : Nat) (x : Int) (w : World) : (buildP 46 #[(3, .slice ao m cap), (9, .int .i64 x)]).run Try.prog w = .ok (.agg (hvA false 0 0 (.slice ao m cap) (.slice none 0 0) (.slice none 0 0) false false 0 x)) w := Go.run_build w _ _ _ (by kernel_rfl)
theorem bdF (ps : Array (Nat × Value)) : Instr.build 28 ps = buildP 28 ps := rfl
theorem buildF0 (k : Int) (w : World) : (buildP 28 #[(0, .int .i64 k)]).run Try.prog w = .ok (.agg (bare k)) w := Go.run_build w _ _ _ (by kernel_rfl)
attribute [local go_sem ↓] bdF
attribute [local go_sem] mk8 buildH39 buildF0
set_option maxRecDepth 20000 in
set_option maxHeartbeats 2000000 in
theorem awake_any (w : World) :
    Calls Try.prog 13 #[] w fun e w' => e = .returned (.bool true) ∧ Below w.heap.size w w' := by
  go_enter Try.func13, Try.ntmps13
  go_wp2_with fail
  refine (fill_ping _ _ ((row?_alloc_at _ _ _ _ (by simp)).trans (congrArg some (by kernel_rfl)))).mono ?_
  rintro e w3 ⟨v3, rfl, hs3, b3⟩
  have R3 := Lib.hid (show row? w3 (w.heap.size + 1) = some (hvA false 0 0 (.slice (some ⟨w.heap.size, 0, none⟩) 8 8) (.slice none 0 0) (.slice none 0 0) false false 0 4) by
    rw [row?_below b3 (by simp <;> omega), row?_alloc_past _ _ _ (by simp <;> omega)]; exact row?_alloc_at _ _ _ _ (by simp <;> omega))
  have Q3 := Lib.hid (show row? w3 w.heap.size = some (bvs (Aes.zeros 8)) by
    rw [row?_below b3 (by simp <;> omega), row?_alloc_past _ _ _ (by simp <;> omega), row?_alloc_past _ _ _ (by simp <;> omega)]; exact row?_alloc_at _ _ _ _ rfl)
  have B3 := Lib.hid ((bel3 w _ _ _).trans (b3.mono (by simp <;> omega)))
  have S3 := Lib.hid hs3
  have le := rldH w3 (w.heap.size + 1) (by rw [R3.out]; rfl)
  rw [R3.out] at le
  have le' : (loadAgg 46 (.pointer (some ⟨w.heap.size + 1, 0, none⟩))).run Try.prog w3 = .ok (.agg (hvA false 0 0 (.slice (some ⟨w.heap.size, 0, none⟩) 8 8) (.slice none 0 0) (.slice none 0 0) false false 0 4)) w3 := le
  clear le b3 hs3
  go_wp2_with fail
  refine (room_short (Aes.zeros 8) (by simp [Aes.zeros]) _ 4 (by omega) (by omega) w3 (Sl.row Q3.out)).mono ?_
  rintro e w4 ⟨rfl, b4⟩
  have B4 := Lib.hid (B3.out.trans (b4.mono B3.out.size))
  have S4 := Lib.hid (S3.out.below b4)
  clear b4 le'
  go_wp2_with fail
  have l3 : Sl (w4.alloc (.cells (bvs [1, 0, 0]) 5)) (.slice (some ⟨w4.heap.size, 0, none⟩) 3 3) [1, 0, 0] := Sl.row (l := [1, 0, 0]) (row?_alloc_at _ _ _ _ rfl)
  refine (same_any [1, 0, 0] [1, 0, 0] (by simp) _ _ _ (S4.out.below ((Below.refl _ _).alloc (Nat.le_refl _) _)) l3).mono ?_
  rw [show decide (([1, 0, 0] : List UInt8) = [1, 0, 0]) = true from rfl]
  rintro e w5 ⟨rfl, b5⟩
  have B5 := Lib.hid ((B4.out.alloc B4.out.size (.cells (bvs [1, 0, 0]) 5)).trans (b5.mono (B4.out.alloc B4.out.size _).size))
  clear b5 l3
  go_wp2_with fail
  refine (data_209 _).mono ?_
  rintro e w6 ⟨rfl, b6⟩
  have B6 := Lib.hid (B5.out.trans (b6.mono B5.out.size))
  clear b6
  go_wp2_with fail
  refine (choose_pd _ _ ((row?_alloc_at _ _ _ _ rfl).trans (congrArg some (by kernel_rfl)))).mono ?_
  rintro e w7 ⟨v7, rfl, hs7, b7⟩
  have B7 := Lib.hid ((B6.out.alloc B6.out.size _).trans (b7.mono (B6.out.alloc B6.out.size _).size))
  have S7 := Lib.hid hs7
  clear b7 hs7
  go_wp2_with fail
  have l8 : Si (w7.alloc (.cells (ivs [0]) 3)) (.slice (some ⟨w7.heap.size, 0, none⟩) 1 1) [0] := Si.row (l := [0]) (row?_alloc_at _ _ _ _ rfl)
  refine (sameI_any [0] [0] (by simp) _ _ _ (S7.out.below ((Below.refl _ _).alloc (Nat.le_refl _) _)) l8).mono ?_
  rw [show decide (([0] : List Int) = [0]) = true from rfl]
  rintro e w8 ⟨rfl, b8⟩
  have B8 := Lib.hid ((B7.out.alloc B7.out.size (.cells (ivs [0]) 3)).trans (b8.mono (B7.out.alloc B7.out.size _).size))
  clear b8 l8
  go_wp2_with fail
  go_ret
  exact ⟨rfl, B8.out⟩
end Go.Proofs.Ytipniobgijdlkaa
