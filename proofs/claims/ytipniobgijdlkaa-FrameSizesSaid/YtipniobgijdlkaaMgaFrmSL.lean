/- The law FrameSizes, walked. -/
import Derived.Test.YtipniobgijdlkaaMga9
import Derived.Test.YtipniobgijdlkaaMgaLawN
import Derived.Test.YtipniobgijdlkaaLibE
namespace Frm
open Go Go.RowKit Go.Rw Hdr
/-- Two frames in rows of the call's own. -/
structure T2 (w : World) (b1 : Nat) (F : Array Value) (f : Fr) (b2 : Nat) (G : Array Value) (g : Fr) (w' : World) : Prop where
  r1 : row? w' b1 = some F
  r2 : row? w' b2 = some G
  f1 : Fv w' (.agg F) f
  f2 : Fv w' (.agg G) g
  bel : Below w.heap.size w w'
theorem T2.step {w : World} {b1 b2 : Nat} {F G : Array Value} {f g : Fr} {w' w'' : World} (h : T2 w b1 F f b2 G g w') (hb : Below w'.heap.size w' w'') : T2 w b1 F f b2 G g w'' :=
  ⟨by rw [row?_below hb (row?_lt h.r1)]; exact h.r1, by rw [row?_below hb (row?_lt h.r2)]; exact h.r2, h.f1.below hb, h.f2.below hb, h.bel.trans (hb.mono h.bel.size)⟩
def frS (i o : Nat) (fin : Bool) (dat : List UInt8) : Fr := ⟨8, 0, 0, [], i, o, fin, dat, [], []⟩
def frC (o : Nat) (dat : List UInt8) : Fr := ⟨6, 0, 0, [], 0, o, false, dat, [], []⟩
theorem frS_may (i o : Nat) (fin : Bool) (dat : List UInt8) (hi : i < 2305843009213693952) (ho : o < 2305843009213693952) (hd : dat.length ≤ 400) : (frS i o fin dat).may = true := by
  unfold Fr.may frS mayB
  rw [if_neg (by simp), if_neg (by simp), if_neg (by simp), if_neg (by simp), if_pos rfl]
  simp only [plainB, Bool.and_eq_true, decide_eq_true_eq]
  simp
  omega
theorem frC_may (o : Nat) (dat : List UInt8) (ho : o < 2305843009213693952) (hd : dat.length ≤ 400) : (frC o dat).may = true := by
  unfold Fr.may frC mayB
  rw [if_neg (by simp), if_neg (by simp), if_neg (by simp), if_pos rfl]
  simp only [plainB, Bool.and_eq_true, decide_eq_true_eq]
  simp
  omega
theorem frS_len (i o : Nat) (fin : Bool) (dat : List UInt8) (hi : i < 2305843009213693952) (ho : o < 2305843009213693952) (hd : dat.length ≤ 400) : (frS i o fin dat).laid.length = 1 + vlen i + vlen o + vlen dat.length + dat.length := by
  unfold Fr.laid
  rw [if_pos (frS_may i o fin dat hi ho hd)]
  unfold Fr.put frS
  rw [if_neg (by simp), if_neg (by simp), if_neg (by simp), if_pos rfl]
  simp only [List.length_append, vP_length, List.length_cons, List.length_nil]
theorem frC_len (o : Nat) (dat : List UInt8) (ho : o < 2305843009213693952) (hd : dat.length ≤ 400) : (frC o dat).laid.length = 1 + vlen o + vlen dat.length + dat.length := by
  unfold Fr.laid
  rw [if_pos (frC_may o dat ho hd)]
  unfold Fr.put frC
  rw [if_neg (by simp), if_neg (by simp), if_pos rfl]
  simp only [List.length_append, vP_length, List.length_cons, List.length_nil]
theorem frSC_ne (i o o' : Nat) (fin : Bool) (dat dat' : List UInt8) : sameB (frS i o fin dat) (frC o' dat') = false := by
  unfold sameB frS frC; simp
theorem fits_S (i o : Nat) (fin : Bool) (dat : List UInt8) (hd : dat.length ≤ 400) : (frS i o fin dat).fits := by
  unfold Fr.fits frS; simp; omega
theorem fits_C (o : Nat) (dat : List UInt8) (hd : dat.length ≤ 400) : (frC o dat).fits := by
  unfold Fr.fits frC; simp; omega
end Frm
namespace Go.Proofs.Ytipniobgijdlkaa
open Go.RowKit Go.Rw Frm Hdr
theorem ft2_rules {w : World} {b1 b2 : Nat} {F G : Array Value} {f g : Fr} (hF : F.size = 10) (hG : G.size = 10) {W : World} (T : T2 w b1 F f b2 G g W) :
    (loadAgg 28 (.pointer (some ⟨b1, 0, none⟩))).run Try.prog W = .ok (.agg F) W ∧ (loadAgg 28 (.pointer (some ⟨b2, 0, none⟩))).run Try.prog W = .ok (.agg G) W := by
  have lf := rldFF W b1 (by rw [T.r1, Option.map_some, hF])
  have lg := rldFF W b2 (by rw [T.r2, Option.map_some, hG])
  rw [T.r1, Option.getD_some] at lf
  rw [T.r2, Option.getD_some] at lg
  exact ⟨lf, lg⟩
theorem u64_ofInt_nat (x : Int) : (UInt64.ofInt x).toNat = (x % 18446744073709551616).toNat := by
  simp [UInt64.ofInt]
  omega
theorem and_61 (x : Int) : bits .and .u64 x 2305843009213693951 = x % 2305843009213693952 := by
  rw [bits_and64]
  have e : n64 (UInt64.ofInt x &&& UInt64.ofInt 2305843009213693951) = (x % 18446744073709551616).toNat &&& (2 ^ 61 - 1) := by
    show (UInt64.ofInt x &&& UInt64.ofInt 2305843009213693951).toNat = _
    rw [UInt64.toNat_and, u64_ofInt_nat]; rfl
  rw [e, Nat.and_two_pow_sub_one_eq_mod]
  omega
attribute [local go_sem high] and_61
attribute [local go_sem ↓] ldFF stFF alFF bdFQ
attribute [local go_sem] rldFF rstFF ralFF setRow_alloc_at setRow_alloc_past setRow_drew
theorem buildFS (i o : Nat) (fin : Bool) (ao : Option Addr) (m cap : Nat) (w : World) : (buildQ 28 #[(0, .int .i64 8), (4, .int .u64 (i : Nat)), (5, .int .u64 (o : Nat)), (6, .bool fin), (7, .slice ao m cap)]).run Try.prog w = .ok (.agg (fvA 8 0 0 (.slice none 0 0) i o fin (.slice ao m cap) (.slice none 0 0) (.slice none 0 0))) w := Go.run_build w _ _ _ (by kernel_rfl)
theorem buildFC (o : Nat) (ao : Option Addr) (m cap : Nat) (w : World) : (buildQ 28 #[(0, .int .i64 6), (5, .int .u64 (o : Nat)), (7, .slice ao m cap)]).run Try.prog w = .ok (.agg (fvA 6 0 0 (.slice none 0 0) 0 o false (.slice ao m cap) (.slice none 0 0) (.slice none 0 0))) w := Go.run_build w _ _ _ (by kernel_rfl)
attribute [local go_sem] buildFS
set_option maxRecDepth 100000 in
set_option maxHeartbeats 4000000 in
theorem sizesLaw_any (idn off : Nat) (n : Int) (fin : Bool) (w : World) :
    Calls Try.prog 11 #[.int .u64 (idn : Nat), .int .u64 (off : Nat), .int .i64 n, .bool fin] w fun e w' => e = .returned (.bool true) ∧ Below w.heap.size w w' := by
  go_enter Try.func11, Try.ntmps11
  go_wp2_with fail
  refine (low_any n 401 (by decide) (by decide) w).mono ?_
  rintro e w0 ⟨rfl, rfl⟩
  have hm := low_lt n 401 (by decide)
  generalize low n 401 = m at *
  have eI : (idn : Int) % 2305843009213693952 = ((idn % 2305843009213693952 : Nat) : Int) := by omega
  have eO : (off : Int) % 2305843009213693952 = ((off % 2305843009213693952 : Nat) : Int) := by omega
  rw [eI, eO]
  have hi : idn % 2305843009213693952 < 2305843009213693952 := by omega
  have ho : off % 2305843009213693952 < 2305843009213693952 := by omega
  generalize idn % 2305843009213693952 = i at *
  generalize off % 2305843009213693952 = o at *
  clear eI eO
  have HM := Lib.hid hm
  have HI := Lib.hid hi
  have HO := Lib.hid ho
  clear hm hi ho
  go_wp2_with fail
  refine (grow_any m m (by have := HM.out; omega) (by have := HM.out; omega) w).mono ?_
  rintro e w1 ⟨v1, dat, rfl, hd, s1, b1⟩
  obtain ⟨a1, c1, rfl, -, -, -⟩ := id s1
  rw [hd] at s1 ⊢
  have S1 := Lib.hid s1
  have B1 := Lib.hid b1
  clear s1 b1
  go_wp2_with fail
  have hfv : Fv w1 (.agg (fvA 8 0 0 (.slice none 0 0) i o fin (.slice a1 m c1) (.slice none 0 0) (.slice none 0 0))) (frS i o fin dat) := ⟨_, _, _, _, rfl, Sr.nil _, S1.out, Sl.nil _, Sl.nil _⟩
  have hz : (fvA 8 0 0 (.slice none 0 0) i o fin (.slice a1 m c1) (.slice none 0 0) (.slice none 0 0)).size = 10 := rfl
  generalize fvA 8 0 0 (.slice none 0 0) i o fin (.slice a1 m c1) (.slice none 0 0) (.slice none 0 0) = F at *
  have row2 := row?_alloc_at w1 F 28 w1.heap.size rfl
  have fv2 := hfv.below ((Below.refl _ _).alloc (Nat.le_refl _) (.cells F 28))
  have b2 : Below w.heap.size w (w1.alloc (.cells F 28)) := B1.out.alloc B1.out.size _
  generalize w1.alloc (.cells F 28) = w2 at *
  clear hfv S1 B1
  refine (grow_any m m (by have := HM.out; omega) (by have := HM.out; omega) w2).mono ?_
  rintro e w3 ⟨v3, dat', rfl, hd', s3, b3⟩
  obtain ⟨a3, c3, rfl, -, -, -⟩ := id s3
  have row3 : row? w3 w1.heap.size = some F := by rw [row?_below b3 (row?_lt row2)]; exact row2
  have fv3 := fv2.below b3
  have b3 : Below w.heap.size w w3 := b2.trans (b3.mono b2.size)
  clear row2 fv2 b2
  rw [hd'] at s3 ⊢
  have S3 := Lib.hid s3
  have B3 := Lib.hid b3
  have R3 := Lib.hid row3
  have F3 := Lib.hid fv3
  clear s3 b3 row3 fv3
  have bG := fun W => buildFC o a3 m c3 W
  have hgv : Fv w3 (.agg (fvA 6 0 0 (.slice none 0 0) 0 o false (.slice a3 m c3) (.slice none 0 0) (.slice none 0 0))) (frC o dat') := ⟨_, _, _, _, rfl, Sr.nil _, S3.out, Sl.nil _, Sl.nil _⟩
  have hzG : (fvA 6 0 0 (.slice none 0 0) 0 o false (.slice a3 m c3) (.slice none 0 0) (.slice none 0 0)).size = 10 := rfl
  have hoG := fvA_all 6 0 0 none a3 none none 0 m 0 0 0 c3 0 0 0 o false
  generalize fvA 6 0 0 (.slice none 0 0) 0 o false (.slice a3 m c3) (.slice none 0 0) (.slice none 0 0) = G at *
  have T4 : T2 w w1.heap.size F (frS i o fin dat) w3.heap.size G (frC o dat') (w3.alloc (.cells G 28)) :=
    ⟨by rw [row?_alloc_past _ _ _ (row?_lt R3.out)]; exact R3.out, row?_alloc_at _ _ _ _ rfl, F3.out.below ((Below.refl _ _).alloc (Nat.le_refl _) _), hgv.below ((Below.refl _ _).alloc (Nat.le_refl _) _), B3.out.alloc B3.out.size _⟩
  obtain ⟨lf, lg⟩ := ft2_rules hz hzG T4
  have T4 := Lib.hid T4
  go_wp2_with fail
  have T4 := T4.out
  generalize w3.alloc (.cells G 28) = w4 at *
  clear lf lg bG hoG
  have RUL := fun (W : World) (T : T2 w w1.heap.size F (frS i o fin dat) w3.heap.size G (frC o dat') W) => ft2_rules hz hzG T
  have h400 : m ≤ 400 := by have := HM.out; omega
  have eS := frS_len i o fin dat HI.out HO.out (by omega)
  have eC := frC_len o dat' HO.out (by omega)
  rw [hd] at eS
  rw [hd'] at eC
  have fS := Lib.hid (fits_S i o fin dat (by omega))
  have fC := Lib.hid (fits_C o dat' (by omega))
  have vI := vlen_le i
  have vO := vlen_le o
  have vM := vlen_le m
  obtain ⟨L, hL⟩ : ∃ L, (frS i o fin dat).laid.length = L := ⟨_, rfl⟩
  obtain ⟨L', hL'⟩ : ∃ L, (frC o dat').laid.length = L := ⟨_, rfl⟩
  rw [hL] at eS
  rw [hL'] at eC
  obtain ⟨x1, e1, y1⟩ : ∃ x : Int, wrap64 (1 + (vlen i : Int)) = x ∧ x = 1 + vlen i := ⟨_, IntWalk.wrap64_in _ (by omega), rfl⟩
  obtain ⟨x2, e2, y2⟩ : ∃ x : Int, wrap64 (x1 + (vlen o : Int)) = x ∧ x = x1 + vlen o := ⟨_, IntWalk.wrap64_in _ (by omega), rfl⟩
  obtain ⟨x3, e3, y3⟩ : ∃ x : Int, wrap64 (x2 + (vlen m : Int)) = x ∧ x = x2 + vlen m := ⟨_, IntWalk.wrap64_in _ (by omega), rfl⟩
  have e4 : wrap64 (x3 + (m : Int)) = L := (IntWalk.wrap64_in _ (by omega)).trans (by omega)
  obtain ⟨x5, e5, y5⟩ : ∃ x : Int, wrap64 (1 + (vlen o : Int)) = x ∧ x = 1 + vlen o := ⟨_, IntWalk.wrap64_in _ (by omega), rfl⟩
  obtain ⟨x6, e6, y6⟩ : ∃ x : Int, wrap64 (x5 + (vlen m : Int)) = x ∧ x = x5 + vlen m := ⟨_, IntWalk.wrap64_in _ (by omega), rfl⟩
  have e7 : wrap64 (x6 + (m : Int)) = L' := (IntWalk.wrap64_in _ (by omega)).trans (by omega)
  have ES := Lib.hid hL
  have EC := Lib.hid hL'
  clear y1 y2 y3 y5 y6 hL hL'
  have I62 := Lib.hid (show i < 4611686018427387904 by have := HI.out; omega)
  have O62 := Lib.hid (show o < 4611686018427387904 by have := HO.out; omega)
  have M62 := Lib.hid (show m < 4611686018427387904 by omega)
  clear hgv S3 R3 F3 B3 hz hzG hd hd' h400 eS eC HM HI HO vI vO vM
  have T4 := Lib.hid T4
  have hq := ES.out
  have hcall := flen_fr _ fS.out (.agg F) w4 T4.out.f1
  rw [hq] at hcall
  refine hcall.mono ?_
  rintro e w5 ⟨rfl, h⟩
  have T5 := T4.out.step h
  clear T4 hcall hq h
  go_wp2_with fail
  refine (size_any i I62.out _).mono ?_
  rintro e W ⟨rfl, rfl⟩
  go_wp2_with fail
  refine (size_any o O62.out _).mono ?_
  rintro e W ⟨rfl, rfl⟩
  have hw : IntKind.u64.wrap (m : Int) = m := IntWalk.u64_in _ (by have := M62.out; omega)
  go_wp2_with fail
  refine (size_any m M62.out _).mono ?_
  rintro e W ⟨rfl, rfl⟩
  have T5 := Lib.hid T5
  obtain ⟨lf, lg⟩ := RUL _ T5.out
  have RUL' := Lib.hid RUL
  clear RUL
  go_wp2_with fail
  have RUL := RUL'.out
  clear RUL' lf lg
  have hq := EC.out
  have hcall := flen_fr _ fC.out (.agg G) w5 T5.out.f2
  rw [hq] at hcall
  refine hcall.mono ?_
  rintro e w6 ⟨rfl, h⟩
  have T6 := T5.out.step h
  clear T5 hcall hq h
  go_wp2_with fail
  refine (size_any o O62.out _).mono ?_
  rintro e W ⟨rfl, rfl⟩
  go_wp2_with fail
  refine (size_any m M62.out _).mono ?_
  rintro e W ⟨rfl, rfl⟩
  have T6 := Lib.hid T6
  obtain ⟨lf, lg⟩ := RUL _ T6.out
  have RUL' := Lib.hid RUL
  clear RUL
  go_wp2_with fail
  have RUL := RUL'.out
  clear RUL' lf lg
  have hq : elicits (frS i o fin dat).k = true := rfl
  have hcall := feli_fr _ (.agg F) w6 T6.out.f1
  rw [hq] at hcall
  refine hcall.mono ?_
  rintro e w7 ⟨rfl, h⟩
  have T7 := T6.out.step h
  clear T6 hcall hq h
  have T7 := Lib.hid T7
  obtain ⟨lf, lg⟩ := RUL _ T7.out
  have RUL' := Lib.hid RUL
  clear RUL
  go_wp2_with fail
  have RUL := RUL'.out
  clear RUL' lf lg
  have hq : elicits (frC o dat').k = true := rfl
  have hcall := feli_fr _ (.agg G) w7 T7.out.f2
  rw [hq] at hcall
  refine hcall.mono ?_
  rintro e w8 ⟨rfl, h⟩
  have T8 := T7.out.step h
  clear T7 hcall hq h
  have T8 := Lib.hid T8
  obtain ⟨lf, lg⟩ := RUL _ T8.out
  have RUL' := Lib.hid RUL
  clear RUL
  go_wp2_with fail
  have RUL := RUL'.out
  clear RUL' lf lg
  have hq := frSC_ne i o o fin dat dat'
  have hcall := fsame_fr _ _ fS.out (.agg F) (.agg G) w8 T8.out.f1 T8.out.f2
  rw [hq] at hcall
  refine hcall.mono ?_
  rintro e w9 ⟨rfl, h⟩
  have T9 := T8.out.step h
  clear T8 hcall hq h
  have B9 := Lib.hid T9.bel
  clear T9
  go_wp2_with fail
  refine (fawake_any w9).mono ?_
  rintro e w10 ⟨rfl, h⟩
  have B := B9.out.trans (h.mono B9.out.size)
  go_wp2_with fail
  go_ret
  exact ⟨rfl, B⟩
end Go.Proofs.Ytipniobgijdlkaa
