/- AesR5; GcmR3; GcmR4; GcmR5. -/
import Derived.Test.YtjlpppnpdgenfaaMvbAesR4
import Derived.Test.YtjlpppnpdgenfaaMvb12
import Derived.Test.YtjlpppnpdgenfaaMvb8
import Derived.RegionTactic
import Derived.BigRegion
import Derived.Test.YtjlpppnpdgenfaaMvbLibF
section
namespace Go.Rw
open Go Go.RowKit
variable {P : Program}
theorem splice_toList (c : Array Value) (o : Nat) (c' : Array Value) : (splice c o c').toList = c.toList.take o ++ c'.toList ++ c.toList.drop (o + c'.size) := by simp [splice]
theorem set_fold : ∀ (vs : List Value) (off k : Nat) (cells : Array Value), off + k + vs.length ≤ cells.size →
  ((vs.zipIdx k).foldl (fun cs (p : Value × Nat) => cs.setIfInBounds (off + p.2) p.1) cells).toList = cells.toList.take (off + k) ++ vs ++ cells.toList.drop (off + k + vs.length)
 | [], off, k, cells, _ => by simp
 | v :: vs, off, k, cells, h => by
  simp only [List.length_cons] at h
  rw [List.zipIdx_cons, List.foldl_cons, set_fold vs off (k + 1) _ (by simp; omega)]
  have hl : off + k < cells.toList.length := by simp; omega
  simp only [Array.toList_setIfInBounds, List.length_cons]
  rw [show off + (k + 1) = off + k + 1 by omega, List.set_eq_take_append_cons_drop, if_pos hl]
  have ht : (cells.toList.take (off + k)).length = off + k := by rw [List.length_take]; omega
  have hd : (cells.toList.take (off + k)).drop (off + k + 1 + vs.length) = [] := List.drop_eq_nil_of_le (by omega)
  have htk : (cells.toList.take (off + k)).take (off + k + 1) = cells.toList.take (off + k) := List.take_of_length_le (by omega)
  rw [List.take_append, List.drop_append, ht, hd, htk, show off + k + 1 - (off + k) = 1 by omega, show off + k + 1 + vs.length - (off + k) = vs.length + 1 by omega]
  simp only [List.take_succ_cons, List.take_zero, List.drop_succ_cons, List.drop_drop, List.nil_append, List.append_assoc, List.cons_append]
  rw [show off + k + 1 + vs.length = off + k + (vs.length + 1) by omega]
theorem fill_over (off : Nat) (vs cells : Array Value) (h : off + vs.size ≤ cells.size) :
  vs.zipIdx.foldl (fun cs (p : Value × Nat) => cs.setIfInBounds (off + p.2) p.1) cells = splice cells off vs := by
 apply Array.ext'
 rw [splice_toList, ← Array.foldl_toList, Array.toList_zipIdx, set_fold vs.toList off 0 cells (by simpa using h)]
 simp
theorem splice_two (Z A B : Array Value) (a b : Nat) (hA : A.size = a) (hB : B.size = b) (hZ : Z.size = a + b) : (splice (splice Z 0 A) a B).toList = A.toList ++ B.toList := by
 have hz : Z.toList.length = a + b := by simpa using hZ
 have hl : A.toList.length = a := by simpa using hA
 rw [splice_toList, splice_toList, List.take_zero, List.nil_append, Nat.zero_add, hA, hB, List.take_append_of_le_length (by omega), List.take_of_length_le (by omega),
  List.drop_eq_nil_of_le (by rw [List.length_append, List.length_drop]; omega), List.append_nil]
theorem run_fmap {α β : Type} (f : α → β) (x : Sem α) (w : World) : (f <$> x).run P w = (x.run P w).andThen fun a w' => .ok (f a) w' := by
 rw [← bind_pure_comp, Sem.run_bind]; rfl
theorem run_build_two {t : TypeId} {f0 f1 : Field} {a b : Nat} {Z : Array Value} (hu : P.underlying t = some (.struct #[f0, f1])) (h0 : f0.offset = 0) (h1 : f1.offset = a)
  (s0 : (P.info? f0.type).map (·.size) = some a) (s1 : (P.info? f1.type).map (·.size) = some b) (hz : (P.info? t).map (·.zero) = some (some (.agg Z))) (hZ : Z.size = a + b)
  (A B : Array Value) (hA : A.size = a) (hB : B.size = b) (w : World) :
  (Instr.build t #[(0, .agg A), (1, .agg B)]).run P w = .ok (.agg (A ++ B)) w := by
 have e0 : (sizeOf f0.type).run P w = .ok a w := by
  cases hq : P.info? f0.type with
  | none => simp [hq] at s0
  | some i => simp [hq] at s0; simp [sizeOf, typeInfo, hq, s0]
 have e1 : (sizeOf f1.type).run P w = .ok b w := by
  cases hq : P.info? f1.type with
  | none => simp [hq] at s1
  | some i => simp [hq] at s1; simp [sizeOf, typeInfo, hq, s1]
 have ez : (zeroValue t).run P w = .ok (.agg Z) w := by
  cases hq : P.info? t with
  | none => simp [hq] at hz
  | some i => simp [hq] at hz; simp [zeroValue, typeInfo, hq, hz]
 unfold Instr.build
 have hA' : (Value.agg A).cells = A := rfl
 have hB' : (Value.agg B).cells = B := rfl
 have hZ' : (Value.agg Z).cells = Z := rfl
 have hfill : Instr.fill (fun x => (#[(0, a), (a, b)] : Array (Nat × Nat))[x]?) Z [(0, .agg A), (1, .agg B)] = some (A ++ B) := by
  have q : splice (splice Z 0 A) a B = A ++ B := by apply Array.ext'; rw [splice_two Z A B a b hA hB hZ]; simp
  have z0 : (splice Z 0 A).size = a + b := by
   rw [← Array.length_toList, splice_toList]; simp; omega
  have c1 : Z.size = a + b := hZ
  have f1 := fill_over 0 A Z (by omega)
  have f2 := fill_over a B (splice Z 0 A) (by omega)
  unfold Instr.fill
  simp only [hA', List.getElem?_toArray, List.getElem?_cons_zero]
  rw [if_neg (by simp; omega), f1]
  unfold Instr.fill
  simp only [hB', List.getElem?_toArray, List.getElem?_cons_succ, List.getElem?_cons_zero]
  rw [if_neg (by simp; omega), f2, q]
  rfl
 simp only [Sem.run_bind, ez, run_underlying hu, Result.andThen_ok, List.mapM_toArray, List.mapM_cons, List.mapM_nil, e0, e1, h0, h1, Sem.run_pure, hZ', run_fmap, hfill]
end Go.Rw
namespace Go.Proofs.Ytjlpppnpdgenfaa
open Go.RowKit Go.Rw Aes
def buildC (ps : Array (Nat × Value)) : Sem Value := Instr.build 116 ps
theorem bd42 (ps : Array (Nat × Value)) : Instr.build 116 ps = buildC ps := rfl
theorem build42 (k b : List UInt8) (hk : k.length = 176) (hb : b.length = 256) (w : World) :
  (buildC #[(0, .agg (bvs k)), (1, .agg (bvs b))]).run Try.prog w = .ok (.agg (bvs (k ++ b))) w := by
 have e : bvs k ++ bvs b = bvs (k ++ b) := by simp [bvs]
 rw [← e]
 exact run_build_two (a := 176) (b := 256) (Z := bvs (zeros 432)) Try.underlying116 rfl rfl (by kernel_rfl) (by kernel_rfl) (by kernel_rfl) (by rw [bvs_size, zeros_length]) _ _ (by rw [bvs_size, hk]) (by rw [bvs_size, hb]) w
attribute [local go_sem ↓] bd42 ld16 st16 al16 ld176 st176 al176 ld256 st256 al256 ld4 st4 al4 shift_shl8 shift_shr8 bvs_getElem?
attribute [local go_sem] build42 rst16p rld16p rld16 rst16 ral16 rld176 rst176 ral176 rld256 rst256 ral256 rld4 rst4 ral4 setRow_alloc_at setRow_alloc_past setRow_drew bvs_setn cipher_length
set_option maxRecDepth 100000 in
set_option maxHeartbeats 2000000 in
theorem rnew_any (key : List UInt8) (hk : key.length = 16) (w : World) :
  Calls Try.prog 55 #[.agg (bvs key)] w fun e w' => ∃ B, e = .returned (.pointer (some ⟨B, 0, none⟩)) ∧ row? w' B = some (bvs (cipher key)) ∧ w.heap.size ≤ B ∧ Below w.heap.size w w' := by
 have hkl := keys_length key
 have hbl := boxTab_length
 go_enter Try.func55, Try.ntmps55
 go_wp2_with fail
 refine (rkeys_any key hk _).mono ?_
 rintro e w1 ⟨rfl, hA⟩
 go_wp2_with fail
 refine (rboxes_any _).mono ?_
 rintro e w2 ⟨rfl, hB⟩
 have zA := hA.size
 simp at zA
 have zB := hB.size
 have b1 : Below w.heap.size w w1 := ((Below.refl _ _).alloc (Nat.le_refl _) _).trans (hA.mono (by first | omega | (simp; done) | (simp; omega)))
 have b2 : Below w.heap.size w w2 := b1.trans (hB.mono (by omega))
 go_wp2_with fail
 go_ret
 exact ⟨_, rfl, by rw [row?_alloc_at _ _ _ _ (by first | omega | (simp; done) | (simp; omega))]; rfl, by omega, b2.alloc (by omega) _⟩
set_option maxRecDepth 100000 in
set_option maxHeartbeats 2000000 in
theorem rblock_any (key inp : List UInt8) (hk : key.length = 16) (hi : inp.length = 16) (w : World) :
  Calls Try.prog 58 #[.agg (bvs key), .agg (bvs inp)] w fun e w' => e = .returned (.agg (bvs (block key inp))) ∧ Below w.heap.size w w' := by
 have hbl := block_length key inp
 go_enter Try.func58, Try.ntmps58
 go_wp2_with fail
 refine Rg.wp_region_plan (Rg.row [(0, 0), (2, 0), (1, 1), (3, 1)] [4]) [4] (by kernel_rfl) (by kernel_rfl) ?_
 simp only [Rg.row, Rg.PT.map, List.map_cons, List.map_nil, List.getD_cons_zero, List.getD_cons_succ]
 go_wp2_with (first
  |(with_reducible refine Rg.plan_pure ?_ ?_ ?_); kernel_rfl; kernel_rfl; intro _ _|(with_reducible refine Rg.plan_take ?_ ?_ ?_); kernel_rfl; kernel_rfl; intro _ _|(with_reducible refine Rg.plan_keep ?_ ?_); kernel_rfl; intro K hK|refine hK _ _ (Rg.Keep.refl _) ?_; clear hK|refine hK _ _ (Rg.Keep.of_below (by assumption)) ?_; clear hK|(with_reducible refine Rg.plan_skip ?_ ?_); kernel_rfl|(with_reducible refine Rg.plan_done ?_)|(with_reducible refine Rg.calm_normal ?_))
 refine (rnew_any key hk _).mono ?_
 rintro e w1 ⟨B, rfl, hB, lB, hA⟩
 refine hK _ _ (Rg.Keep.of_below hA) ?_
 clear hK
 have zA := hA.size
 simp at zA lB
 have A1 : row? w1 (w.heap.size + 1 + 1) = some (bvs (zeros 16)) := by rw [row?_below hA (by first | omega | (simp; done) | (simp; omega))]; simp [go_sem]
 have Ab : Below w.heap.size w w1 := (((bel2a _ _ _).alloc (by first | omega | (simp; done) | (simp; omega)) _).drew).trans (hA.mono (by first | omega | (simp; done) | (simp; omega)))
 clear hA
 go_wp2_with (first
  |(with_reducible refine Rg.plan_pure ?_ ?_ ?_); kernel_rfl; kernel_rfl; intro _ _|(with_reducible refine Rg.plan_take ?_ ?_ ?_); kernel_rfl; kernel_rfl; intro _ _|(with_reducible refine Rg.plan_keep ?_ ?_); kernel_rfl; intro K hK|refine hK _ _ (Rg.Keep.refl _) ?_; clear hK|refine hK _ _ (Rg.Keep.of_below (by assumption)) ?_; clear hK|(with_reducible refine Rg.plan_skip ?_ ?_); kernel_rfl|(with_reducible refine Rg.plan_done ?_)|(with_reducible refine Rg.calm_normal ?_))
 refine (rcblock_any key inp hk hi B _ hB).mono ?_
 rintro e w2 ⟨rfl, hA⟩
 refine hK _ _ (Rg.Keep.of_below hA) ?_
 clear hK
 have A2 : row? w2 (w.heap.size + 1 + 1) = some (bvs (zeros 16)) := by rw [row?_below hA (by first | omega | (simp; done) | (simp; omega))]; exact A1
 have Ab2 : Below w.heap.size w w2 := Ab.trans (hA.mono (by first | omega | (simp; done) | (simp; omega)))
 clear hA A1
 go_wp2_with (first
  |(with_reducible refine Rg.plan_pure ?_ ?_ ?_); kernel_rfl; kernel_rfl; intro _ _|(with_reducible refine Rg.plan_take ?_ ?_ ?_); kernel_rfl; kernel_rfl; intro _ _|(with_reducible refine Rg.plan_keep ?_ ?_); kernel_rfl; intro K hK|refine hK _ _ (Rg.Keep.refl _) ?_; clear hK|refine hK _ _ (Rg.Keep.of_below (by assumption)) ?_; clear hK|(with_reducible refine Rg.plan_skip ?_ ?_); kernel_rfl|(with_reducible refine Rg.plan_done ?_)|(with_reducible refine Rg.calm_normal ?_))
 exact ret16 (w.heap.size + 1 + 1) (bvs (block key inp)) rfl rfl rfl (row?_setRow_eq A2) (by rw [bvs_size]; exact block_length _ _) ⟨rfl, below_setRow Ab2 (by omega) _⟩
end Go.Proofs.Ytjlpppnpdgenfaa

end
section
namespace Go.Proofs.Ytjlpppnpdgenfaa
open Go.RowKit Go.Rw Aes Gcm
attribute [local go_sem ↓] ld12 ld16 st16 al16 shift_shl8 shift_shr8 shift_shr32 bvs_getElem?
attribute [local go_sem] rld12 rld16 rst16 ral16 setRow_alloc_at setRow_alloc_past setRow_drew bvs_setn
set_option maxRecDepth 100000 in
set_option maxHeartbeats 1000000 in
theorem rcount_any (nonce : List UInt8) (n : Nat) (hn : nonce.length = 12) (h32 : n < 4294967296) (w : World) :
  Calls Try.prog 79 #[.agg (bvs nonce), .int .u32 (n : Nat)] w fun e w' => e = .returned (.agg (bvs (ctr nonce n))) ∧ Below w.heap.size w w' := by
 have hb0 := byte_low n h32
 have hlen : (nonce ++ zeros 4).length = 16 := by simp [hn, zeros]
 go_enter Try.func79, Try.ntmps79
 go_wp2_with fail
 have hcopy : (Builtin.copy_ #[27, 27] 3 #[.slice (some ⟨w.heap.size + 1 + 1, 0, none⟩) 16 16, .slice (some ⟨w.heap.size, 0, none⟩) 12 12]).run Try.prog (((w.alloc (.cells (bvs nonce) 23)).alloc (.cells (bvs (zeros 16)) 22)).alloc (.cells (bvs (zeros 16)) 22)).drew
   = .ok (.int .i64 12) (((w.alloc (.cells (bvs nonce) 23)).alloc (.cells (bvs (zeros 16)) 22)).alloc (.cells (bvs (nonce ++ zeros 4)) 22)).drew := by
  have h0 : row? (((w.alloc (.cells (bvs nonce) 23)).alloc (.cells (bvs (zeros 16)) 22)).alloc (.cells (bvs (zeros 16)) 22)).drew w.heap.size = some (bvs nonce) := by simp [go_sem]
  have h1 : row? (((w.alloc (.cells (bvs nonce) 23)).alloc (.cells (bvs (zeros 16)) 22)).alloc (.cells (bvs (zeros 16)) 22)).drew (w.heap.size + 1 + 1) = some (bvs (zeros 16)) := by simp [go_sem]
  have hs := Sl.row h0
  rw [hn] at hs
  rw [run_copy_sl (elem := 5) Try.underlying27 (by kernel_rfl) 16 16 h1 (zeros_length _) hs, hn]
  congr 1
  have e : nonce.take 16 ++ (zeros 16).drop 12 = nonce ++ zeros 4 := by rw [List.take_of_length_le (by omega), zeros_drop]
  rw [e]
  simp [setRow_drew, setRow_alloc_at]
 refine Rg.wp_region_plan (Rg.row [(0, 3), (1, 3)] [2]) [2] (by kernel_rfl) (by kernel_rfl) ?_
 simp only [Rg.row, Rg.PT.map, List.map_cons, List.map_nil, List.getD_cons_zero, List.getD_cons_succ]
 go_wp2_with (first
  |(with_reducible refine Rg.plan_pure ?_ ?_ ?_); kernel_rfl; kernel_rfl; intro _ _|(with_reducible refine Rg.plan_take ?_ ?_ ?_); kernel_rfl; kernel_rfl; intro _ _|(with_reducible refine Rg.plan_keep ?_ ?_); kernel_rfl; intro K hK|refine hK _ _ (Rg.Keep.refl _) ?_; clear hK|refine hK _ _ (Rg.Keep.of_below (by assumption)) ?_; clear hK|(with_reducible refine Rg.plan_skip ?_ ?_); kernel_rfl|(with_reducible refine Rg.plan_done ?_)|(with_reducible refine Rg.calm_normal ?_))
 have e : nonce ++ ((((zeros 4).set 0 (Go.Rw.byteOf n 24)).set 1 (Go.Rw.byteOf n 16)).set 2 (Go.Rw.byteOf n 8)).set 3 (Go.Rw.byteOf n 0) = ctr nonce n := by
  rw [← ctr_sets nonce n hn]; simp [List.set_append, hn]
 rw [e]
 exact ret16 (w.heap.size + 1) (bvs (ctr nonce n)) rfl rfl rfl (by simp [go_sem]) (by rw [bvs_size]; exact ctr_length _ _) ⟨rfl, (bel3a _ _ _ _).drew⟩
set_option maxRecDepth 100000 in
set_option maxHeartbeats 2000000 in
theorem turn_any (key nonce text : List UInt8) (hk : key.length = 16) (hn : nonce.length = 12) (ht : text.length ≤ 1000000) (v : Value) (B : Nat) (w : World) (hB : row? w B = some (bvs (cipher key))) (hs : Sl w v text) :
  Calls Try.prog 56 #[.pointer (some ⟨B, 0, none⟩), .agg (bvs nonce), v] w fun e w' =>
   ∃ g, e = .returned (.slice (some ⟨g, 0, none⟩) text.length text.length) ∧ w'.ownsRow w.heap.size 5 1 (.slice (some ⟨g, 0, none⟩) text.length text.length) text.length ((enc key nonce text).map bv) ∧ Below w.heap.size w w' := by
 have hS := hs
 obtain ⟨ao, cap, rfl, hc, hnn, hp⟩ := hS
 obtain ⟨i0, hi, hz0, hz1, hz2⟩ := info_parts info8g
 have qB := row?_lt hB
 go_enter Try.func56, Try.ntmps56
 go_wp2_with (at_make; refine wpList_make_full _ rfl _ _ 27 rfl w.heap.size 5 i0 (.int .u8 0) 1 Try.underlying27 hi hz0 hz1 _ _ _ _ text.length rfl rfl rfl rfl ?b1 ?b2 ?b3 ?_)
 case b1 => rw [hz2]; omega
 case b2 => unfold maxLen; omega
 case b3 => simp
 intro w1 hown1 hgrow1
 rw [zeros_made] at hown1
 have z1 := hgrow1.size
 simp at z1
 have z2 := (hown1.lt _ rfl).2
 simp at z2
 have r0 : row? w1 w.heap.size = some (bvs nonce) := by rw [grown_row0 hgrow1 (by simp)]; simp [go_sem]
 have rB : row? w1 B = some (bvs (cipher key)) := by rw [grown_row0 hgrow1 (by simp; omega), row?_alloc_past _ _ _ qB]; exact hB
 have b1 : Below w.heap.size w w1 := ((Below.refl _ _).alloc (Nat.le_refl _) _).grown hgrow1 (by simp) (by simp)
 have hown2 : w1.ownsRow w.heap.size 5 1 (.slice (some ⟨w.heap.size + 1, 0, none⟩) text.length text.length) text.length ((upto (encF key nonce text) (List.replicate text.length 0) text.length 0).map bv) := by
  rw [upto_zero _ _ _ (by simp)]; simpa using hown1
 have R0 := Lib.hid r0
 have RB := Lib.hid rB
 have O1 := Lib.hid hown2
 clear hgrow1 r0 rB hown1 hown2
 go_wp2_with fail
 go_loopw [8] (fun v wr => ∃ q m, m = 16 * q ∧ v = .int .i64 (m : Nat) ∧ m < text.length + 16 ∧ wr.ownsRow w.heap.size 5 1 (.slice (some ⟨w.heap.size + 1, 0, none⟩) text.length text.length) text.length ((upto (encF key nonce text) (List.replicate text.length 0) text.length m).map bv)
   ∧ row? wr w.heap.size = some (bvs nonce) ∧ row? wr B = some (bvs (cipher key)) ∧ Below w.heap.size w wr) (fun v _ => text.length + 16 - (intOf v).toNat)
 case atStart => exact ⟨0, 0, rfl, rfl, by omega, O1.out, R0.out, RB.out, b1⟩
 case round =>
  obtain ⟨q, m, hm, rfl, hml, hown, h0, h1, hb⟩ := hrel
  have HM := Lib.hid hm
  have HO := Lib.hid hown
  clear hm hown
  by_cases hlt : m < text.length
  ·obtain ⟨b, off, rfl, hcell⟩ := hp (by omega)
   have HC := Lib.hid hcell
   clear hcell
   go_wp2_with fail
   rw [show (2 : Int) + (m : Int) / 16 = ((q + 2 : Nat) : Int) by have := HM.out; omega]
   have hq32 : q + 2 < 4294967296 := by have := HM.out; omega
   refine (rcount_any nonce (q + 2) hn hq32 _).mono ?_
   rintro e wA ⟨rfl, hA⟩
   have qb := row?_lt h1
   have q0 := row?_lt h0
   have qo := (HO.out.lt _ rfl).2
   simp at qo
   have hB2 : row? wA B = some (bvs (cipher key)) := by rw [row?_below hA qb]; exact h1
   go_wp2_with fail
   refine (rcblock_any key (ctr nonce (q + 2)) hk (ctr_length _ _) B _ hB2).mono ?_
   rintro e wB ⟨rfl, hB'⟩
   have zA := hA.size
   have zB := hB'.size
   have hAB : Below wr.heap.size wr wB := hA.trans (hB'.mono zA)
   have G0 := Lib.hid (show row? wB w.heap.size = some (bvs nonce) by rw [row?_below hAB q0]; exact h0)
   have G1 := Lib.hid (show row? wB B = some (bvs (cipher key)) by rw [row?_below hAB qb]; exact h1)
   have GO := Lib.hid (own_same (w' := wB) HO.out (hAB.block _ qo))
   have gb : Below w.heap.size w wB := hb.trans (hAB.mono hb.size)
   have hFl : (block key (ctr nonce (q + 2))).length = 16 := block_length _ _
   have EF : Hid (∀ j, j < 16 → encF key nonce text (m + j) = nth text (m + j) ^^^ nth (block key (ctr nonce (q + 2))) j) := Lib.hid (fun j hj => by
    rw [encF_at, show (m + j) / 16 = q by have := HM.out; omega, show (m + j) % 16 = j by have := HM.out; omega])
   generalize block key (ctr nonce (q + 2)) = F at *
   clear hA hB' hAB h0 h1 hB2 HO
   go_wp2_with fail
   go_loopw [10] (fun v wr => ∃ j : Nat, j ≤ 16 ∧ m + j ≤ text.length ∧ v = .int .i64 j ∧ wr.ownsRow w.heap.size 5 1 (.slice (some ⟨w.heap.size + 1, 0, none⟩) text.length text.length) text.length ((upto (encF key nonce text) (List.replicate text.length 0) text.length (m + j)).map bv)
     ∧ row? wr w.heap.size = some (bvs nonce) ∧ row? wr B = some (bvs (cipher key)) ∧ row? wr wB.heap.size = some (bvs F) ∧ Below w.heap.size w wr) (fun v _ => 16 - (intOf v).toNat)
   case atStart => exact ⟨0, by omega, by omega, rfl, GO.out.alloc _, by rw [row?_alloc_past _ _ _ (by omega)]; exact G0.out, by rw [row?_alloc_past _ _ _ (by omega)]; exact G1.out, row?_alloc_at _ _ _ _ rfl, gb.alloc gb.size _⟩
   case round =>
    obtain ⟨j, hj, hjm, rfl, hown, h0, h1, h2, hbj⟩ := hrel
    by_cases hj16 : j < 16
    ·by_cases hjp : m + j < text.length
     ·have hck := below_cell hbj (HC.out (m + j) hjp) (cell_lt (HC.out (m + j) hjp))
      have cO : wr.cell? ⟨w.heap.size + 1, m + j, none⟩ = some (.int .u8 (n8 (nth (upto (encF key nonce text) (List.replicate text.length 0) text.length (m + j)) (m + j)) : Nat)) := by
       rw [hown.cellAt (m + j) (by omega), List.getElem?_map]
       have hl : m + j < (upto (encF key nonce text) (List.replicate text.length 0) text.length (m + j)).length := by rw [upto_length]; exact hjp
       rw [List.getElem?_eq_getElem hl]; simp [nth, hl, bv, n8]
      have fO := hown.frozenAt (m + j)
      have hst := hown.stored (m + j) (bv (encF key nonce text (m + j)))
      have eF := EF.out j hj16
      have eU := upto_set (encF key nonce text) (List.replicate text.length 0) text.length (m + j) hjp
      have hown2 : (wr.setCell ⟨w.heap.size + 1, m + j, none⟩ (.int .u8 (n8 (nth text (m + j) ^^^ nth F j) : Nat))).ownsRow w.heap.size 5 1 (.slice (some ⟨w.heap.size + 1, 0, none⟩) text.length text.length) text.length ((upto (encF key nonce text) (List.replicate text.length 0) text.length (m + j + 1)).map bv) := by
       have := hst.1
       rw [← List.map_set, eU, eF] at this
       exact this
      have HO2 := Lib.hid hown2
      have H0 := Lib.hid h0
      have H1 := Lib.hid h1
      have H2 := Lib.hid h2
      have c2 := row?_cell h2
      have hg2 := row?_lt h0
      clear hown hst eF eU hown2 h0 h1 h2
      go_wp2_with fail
      refine Rg.wp_region_plan (Rg.row [(0, 3), (1, 3), (2, 3), (3, 3), (4, 3), (5, 3), (6, 3), (7, 3), (8, 3), (9, 0), (10, 3), (11, 3), (12, 0), (13, 3), (14, 3)] [15]) [15] (by kernel_rfl) (by kernel_rfl) ?_
      simp only [Rg.row, Rg.PT.map, List.map_cons, List.map_nil, List.getD_cons_zero, List.getD_cons_succ]
      go_wp2_with (first
       |(with_reducible refine Rg.plan_pure ?_ ?_ ?_); kernel_rfl; kernel_rfl; intro _ _|(with_reducible refine Rg.plan_take ?_ ?_ ?_); kernel_rfl; kernel_rfl; intro _ _|(with_reducible refine Rg.plan_keep ?_ ?_); kernel_rfl; intro K hK|refine hK _ _ (Rg.Keep.refl _) ?_; clear hK|refine hK _ _ (Rg.Keep.of_below (by assumption)) ?_; clear hK|(with_reducible refine Rg.plan_skip ?_ ?_); kernel_rfl|(with_reducible refine Rg.plan_done ?_)|(with_reducible refine Rg.calm_normal ?_))
      go_roundw
      case rel =>
       refine ⟨j + 1, by omega, by omega, by go_num, HO2.out.drew, ?_, ?_, ?_, (hbj.setCell (by simp <;> omega) _).drew⟩
       ·rw [row?_drew, row?_setCell_ne _ _ _ _ (by simp <;> omega)]; exact H0.out
       ·rw [row?_drew, row?_setCell_ne _ _ _ _ (by simp <;> omega)]; exact H1.out
       ·rw [row?_drew, row?_setCell_ne _ _ _ _ (by simp <;> omega)]; exact H2.out
      case measure => simp [intOf]; omega
     ·have hml2 : m + j = text.length := by omega
      rw [upto_over _ _ _ (m + j) (by omega), ← upto_over (encF key nonce text) (List.replicate text.length 0) _ (m + 16) (by omega)] at hown
      clear hml2
      have HO := Lib.hid hown
      have H0 := Lib.hid h0
      have H1 := Lib.hid h1
      clear hown h0 h1 h2
      go_wp2_with fail
      go_roundw
      case rel => exact ⟨q + 1, m + 16, by have := HM.out; omega, by go_num, by omega, HO.out, H0.out, H1.out, hbj⟩
      case measure => simp [intOf]; omega
    ·have hj2 : j = 16 := by omega
     subst hj2
     have HO := Lib.hid hown
     have H0 := Lib.hid h0
     have H1 := Lib.hid h1
     clear hown h0 h1 h2
     go_wp2_with fail
     go_roundw
     case rel => exact ⟨q + 1, m + 16, by have := HM.out; omega, by go_num, by omega, HO.out, H0.out, H1.out, hbj⟩
     case measure => simp [intOf]; omega
  ·rw [upto_over _ _ _ _ (by omega)] at HO
   have he : (List.range text.length).map (encF key nonce text) = enc key nonce text := rfl
   rw [he] at HO
   go_wp2_with fail
   go_ret
   exact ⟨_, rfl, HO.out, hb⟩
end Go.Proofs.Ytjlpppnpdgenfaa

end
section
namespace Go.Proofs.Ytjlpppnpdgenfaa
open Go.RowKit Go.Rw Aes Gcm
attribute [local go_sem ↓] ld12 ld16 st16 al16 shift_shl8 shift_shr8 shift_shr32 shift_shr64 bvs_getElem?
attribute [local go_sem] rld12 rld16 rst16 ral16 setRow_alloc_at setRow_alloc_past setRow_drew bvs_setn
theorem word_m (n : Nat) (h : n ≤ 1000000) : (n : Int) * 8 = ((n64 (word n) : Nat) : Int) := by
 rw [word, n64_ofNat _ (by omega)]; omega
set_option maxRecDepth 100000 in
set_option maxHeartbeats 4000000 in
theorem rtag_any (key nonce text data : List UInt8) (hk : key.length = 16) (hn : nonce.length = 12) (ht : text.length ≤ 1000000) (hdl : data.length ≤ 1000000) (vs vd : Value) (B : Nat) (w : World) (hB : row? w B = some (bvs (cipher key))) (hs : Sl w vs text) (hd : Sl w vd data) :
  Calls Try.prog 57 #[.pointer (some ⟨B, 0, none⟩), .agg (bvs nonce), vs, vd] w fun e w' => e = .returned (.agg (bvs (tag key nonce text data))) ∧ Below w.heap.size w w' := by
 have hs0 := hs
 have hd0 := hd
 have qB := row?_lt hB
 obtain ⟨ao, cap, rfl, hc, hnn, hp⟩ := hs0
 obtain ⟨ao2, cap2, rfl, hc2, hnn2, hp2⟩ := hd0
 obtain ⟨i0, hi, hz0, hz1, hz2⟩ := info_parts info8g
 clear hp hp2 hnn hnn2
 go_enter Try.func57, Try.ntmps57
 go_wp2_with fail
 refine (rcblock_any key (zeros 16) hk (zeros_length 16) B _ (by rw [row?_alloc_past _ _ _ (by simp; omega), row?_alloc_past _ _ _ qB]; exact hB)).mono ?_
 rintro e wA ⟨rfl, hA⟩
 have zA := hA.size
 simp at zA
 have a1 : row? wA w.heap.size = some (bvs nonce) := by rw [row?_below hA (by simp <;> omega)]; simp [go_sem]
 have a2 : row? wA (w.heap.size + 1) = some (bvs (zeros 16)) := by rw [row?_below hA (by simp <;> omega)]; simp [go_sem]
 have aB : row? wA B = some (bvs (cipher key)) := by rw [row?_below hA (by simp; omega), row?_alloc_past _ _ _ (by simp; omega), row?_alloc_past _ _ _ qB]; exact hB
 have ab : Below w.heap.size w wA := (bel2a w _ _).trans (hA.mono (by simp; omega))
 clear hA
 generalize hH : block key (zeros 16) = H at *
 have hHl : H.length = 16 := by rw [← hH]; exact block_length _ _
 go_wp2_with (at_make; refine wpList_make_full _ rfl _ _ 27 rfl wA.heap.size 5 i0 (.int .u8 0) 1 Try.underlying27 hi hz0 hz1 _ _ _ _ 16 rfl rfl rfl rfl ?b1 ?b2 ?b3 ?_)
 case b1 => rw [hz2]; omega
 case b2 => unfold maxLen; omega
 case b3 => simp
 intro w1 hown1 hgrow1
 have z1 := hgrow1.size
 simp at z1 hown1
 rw [zeros_made] at hown1
 have z2 := (hown1.lt _ rfl).2
 have r1 : row? w1 w.heap.size = some (bvs nonce) := by rw [grown_row0 hgrow1 (by simp; omega), row?_alloc_past _ _ _ (by omega)]; exact a1
 have r2 : row? w1 (w.heap.size + 1) = some (bvs (zeros 16)) := by rw [grown_row0 hgrow1 (by simp; omega), row?_alloc_past _ _ _ (by omega)]; exact a2
 have r3 : row? w1 wA.heap.size = some (bvs H) := by rw [grown_row0 hgrow1 (by simp)]; simp [go_sem]
 have rB : row? w1 B = some (bvs (cipher key)) := by rw [grown_row0 hgrow1 (by simp; omega), row?_alloc_past _ _ _ (by omega)]; exact aB
 have b1 : Below w.heap.size w w1 := (ab.alloc (by omega) _).grown hgrow1 (by simp; omega) (by simp)
 have R1 := Lib.hid r1
 have R2 := Lib.hid r2
 have R3 := Lib.hid r3
 have RB := Lib.hid rB
 have hown2 : w1.ownsRow wA.heap.size 5 1 (.slice (some ⟨wA.heap.size + 1, 0, none⟩) 16 16) 16 ((blkUpto (word data.length, word text.length) 0).map bv) := by
  rw [blkUpto_zero]; exact hown1
 have O1 := Lib.hid hown2
 clear hgrow1 r1 r2 r3 rB hown1 hown2 a1 a2 aB ab
 go_wp2_with fail
 go_loopw [11] (fun v wr => ∃ k : Nat, k ≤ 8 ∧ v = .int .i64 k ∧ wr.ownsRow wA.heap.size 5 1 (.slice (some ⟨wA.heap.size + 1, 0, none⟩) 16 16) 16 ((blkUpto (word data.length, word text.length) k).map bv)
   ∧ row? wr w.heap.size = some (bvs nonce) ∧ row? wr (w.heap.size + 1) = some (bvs (zeros 16)) ∧ row? wr wA.heap.size = some (bvs H) ∧ row? wr B = some (bvs (cipher key)) ∧ Below w.heap.size w wr) (fun v _ => 8 - (intOf v).toNat)
 case atStart => exact ⟨0, by omega, rfl, O1.out, R1.out, R2.out, R3.out, RB.out, b1⟩
 case round =>
  obtain ⟨k, hk', rfl, hown, h1, h2, h3, hB2, hb⟩ := hrel
  have HO := Lib.hid hown
  have H1 := Lib.hid h1
  have H2 := Lib.hid h2
  have H3 := Lib.hid h3
  have HB := Lib.hid hB2
  by_cases hlt : k < 8
  ·have hr := own_row hown
   have c0 := row?_cell hr
   have f0 := row?_frozen hr
   have s0 : (8 : Int) * (k : Int) ≤ 56 := by omega
   have s1 : ((56 : Int) - 8 * (k : Int)).toNat = 56 - 8 * k := by omega
   have W1 := word_m data.length hdl
   have W2 := word_m text.length ht
   have G := Lib.hid (blkUpto_set (word data.length, word text.length) k hlt)
   clear hown h1 h2 h3 hB2 hr
   go_wp2_with fail
   go_region
   all_goals (go_wp2_with fail)
   go_roundw
   case rel =>
    refine ⟨k + 1, by omega, by go_num, ?_, ?_, ?_, ?_, ?_, ((hb.setCell (by simp <;> omega) _).setCell (by simp <;> omega) _).drew⟩
    ·rw [← G.out]; exact (own_stored (own_stored HO.out k _) (8 + k) _).drew
    ·rw [row?_drew, row?_setCell_ne _ _ _ _ (by simp <;> omega), row?_setCell_ne _ _ _ _ (by simp <;> omega)]; exact H1.out
    ·rw [row?_drew, row?_setCell_ne _ _ _ _ (by simp <;> omega), row?_setCell_ne _ _ _ _ (by simp <;> omega)]; exact H2.out
    ·rw [row?_drew, row?_setCell_ne _ _ _ _ (by simp <;> omega), row?_setCell_ne _ _ _ _ (by simp <;> omega)]; exact H3.out
    ·rw [row?_drew, row?_setCell_ne _ _ _ _ (by simp <;> omega), row?_setCell_ne _ _ _ _ (by simp <;> omega)]; exact HB.out
   case measure => simp [intOf]; omega
  ·obtain rfl : k = 8 := by omega
   rw [blkUpto_full] at hown
   have hL : longs data.length text.length = blk (word data.length, word text.length) := rfl
   rw [← hL] at hown
   have hLl : (longs data.length text.length).length = 16 := blk_length _
   have hT : tag key nonce text data = add (Gcm.hash H [data, text, longs data.length text.length]) (block key (ctr nonce 1)) := by rw [← hH]; rfl
   generalize longs data.length text.length = L at *
   have hr := own_row hown
   have qL := row?_lt hr
   have q3 := row?_lt h3
   clear HO H1 H2 H3 HB hown hL
   have hk8 : ¬ (((8 : Nat) : Int) < 8) := by omega
   have hP : Pts (wr.alloc (.cells #[.slice ao2 data.length cap2, .slice ao text.length cap, .slice (some ⟨wA.heap.size + 1, 0, none⟩) 16 16] 27)) (.slice (some ⟨wr.heap.size, 0, none⟩) 3 3) [data, text, L] := by
    refine ⟨_, 3, rfl, fun _ => ⟨wr.heap.size, 0, rfl, fun k hk => ?_⟩⟩
    rw [row?_cell (row?_alloc_at _ _ _ _ rfl)]
    have hbw := hb.alloc hb.size (.cells #[.slice ao2 data.length cap2, .slice ao text.length cap, .slice (some ⟨wA.heap.size + 1, 0, none⟩) 16 16] 27)
    match k, hk with
    | 0, _ => exact ⟨_, rfl, hd.below hbw⟩
    | 1, _ => exact ⟨_, rfl, hs.below hbw⟩
    | 2, _ =>
     have hr2 : row? (wr.alloc (.cells #[.slice ao2 data.length cap2, .slice ao text.length cap, .slice (some ⟨wA.heap.size + 1, 0, none⟩) 16 16] 27)) (wA.heap.size + 1) = some (bvs L) := by rw [row?_alloc_past _ _ _ qL]; exact hr
     have := Sl.row hr2
     rw [hLl] at this
     exact ⟨_, rfl, this⟩
   go_wp2_with fail
   refine (rhash_any H hHl [data, text, L] (by simp) (by intro p hp; simp at hp; rcases hp with rfl | rfl | rfl <;> omega) _ _ hP).mono ?_
   rintro e wC ⟨rfl, hC⟩
   have zC := hC.size
   simp at zC
   have zr := hb.size
   have q1 := row?_lt h1
   have q2 := row?_lt h2
   have qB2 := row?_lt hB2
   have c1 : row? wC w.heap.size = some (bvs nonce) := by rw [row?_below hC (by simp; omega), row?_alloc_past _ _ _ q1]; exact h1
   have c2 : row? wC (w.heap.size + 1) = some (bvs (zeros 16)) := by rw [row?_below hC (by simp; omega), row?_alloc_past _ _ _ q2]; exact h2
   have cB : row? wC B = some (bvs (cipher key)) := by rw [row?_below hC (by simp; omega), row?_alloc_past _ _ _ qB2]; exact hB2
   have cb : Below w.heap.size w wC := (hb.alloc zr _).trans (hC.mono (by simp; omega))
   have hSl : (Gcm.hash H [data, text, L]).length = 16 := hash_length _ _
   generalize Gcm.hash H [data, text, L] = S at *
   have l0 : w.heap.size < wC.heap.size := by omega
   clear hC hP h1 h2 h3 hB2 hr
   go_wp2_with fail
   refine (rcount_any nonce 1 hn (by omega) _).mono ?_
   rintro e wD ⟨rfl, hD⟩
   have zD := hD.size
   simp at zD
   have d2 : row? wD (w.heap.size + 1) = some (bvs (zeros 16)) := by rw [row?_below hD (by simp; omega), row?_alloc_past _ _ _ (by omega)]; exact c2
   have dB : row? wD B = some (bvs (cipher key)) := by rw [row?_below hD (by simp; omega), row?_alloc_past _ _ _ (by omega)]; exact cB
   have dS : row? wD wC.heap.size = some (bvs S) := by rw [row?_below hD (by simp)]; simp [go_sem]
   have db : Below w.heap.size w wD := (cb.alloc (by omega) _).trans (hD.mono (by simp; omega))
   clear hD c1 c2 cB cb
   go_wp2_with fail
   refine (rcblock_any key (ctr nonce 1) hk (ctr_length _ _) B _ dB).mono ?_
   rintro e wE ⟨rfl, hE⟩
   have zE := hE.size
   have e2 : row? wE (w.heap.size + 1) = some (bvs (zeros 16)) := by rw [row?_below hE (by omega)]; exact d2
   have eS : row? wE wC.heap.size = some (bvs S) := by rw [row?_below hE (by omega)]; exact dS
   have eb : Below w.heap.size w wE := db.trans (hE.mono (by omega))
   have hFl : (block key (ctr nonce 1)).length = 16 := block_length _ _
   generalize block key (ctr nonce 1) = F at *
   have E2 := Lib.hid (show row? (wE.alloc (.cells (bvs F) 22)) (w.heap.size + 1) = some (bvs (zeros 16)) by rw [row?_alloc_past _ _ _ (by omega)]; exact e2)
   have ES := Lib.hid (show row? (wE.alloc (.cells (bvs F) 22)) wC.heap.size = some (bvs S) by rw [row?_alloc_past _ _ _ (by omega)]; exact eS)
   have EF := Lib.hid (row?_alloc_at wE (bvs F) 22 _ rfl)
   have EB := Lib.hid (eb.alloc (by omega) (.cells (bvs F) 22))
   clear hE d2 dB dS db e2 eS eb
   go_wp2_with fail
   go_loopw [14] (fun v wr => ∃ k : Nat, k ≤ 16 ∧ v = .int .i64 k ∧ row? wr wC.heap.size = some (bvs (upto (addF S F) S 16 k)) ∧ row? wr wE.heap.size = some (bvs F) ∧ row? wr (w.heap.size + 1) = some (bvs (zeros 16)) ∧ Below w.heap.size w wr) (fun v _ => 16 - (intOf v).toNat)
   case atStart => exact ⟨0, by omega, rfl, by rw [upto_zero _ _ _ hSl]; exact ES.out, EF.out, E2.out, EB.out⟩
   case round =>
    obtain ⟨k, hk, rfl, h0, h1, h2, hb⟩ := hrel
    by_cases hlt : k < 16
    ·have g := upto_set (addF S F) S 16 k hlt
     have ghi := upto_hi (f := addF S F) (z := S) hlt (Nat.le_refl k)
     have G := Lib.hid g; clear g
     have H0 := Lib.hid h0
     have H1 := Lib.hid h1
     have H2 := Lib.hid h2
     have c0 := row?_cell h0
     have c1 := row?_cell h1
     have f0 := row?_frozen h0
     clear h0 h1 h2
     go_wp2_with fail
     refine Rg.wp_region_plan (Rg.row [(0, 3), (1, 3), (2, 3), (3, 0), (4, 3), (5, 3), (6, 0), (7, 3), (8, 3)] [9]) [9] (by kernel_rfl) (by kernel_rfl) ?_
     simp only [Rg.row, Rg.PT.map, List.map_cons, List.map_nil, List.getD_cons_zero, List.getD_cons_succ]
     go_wp2_with (first
      |(with_reducible refine Rg.plan_pure ?_ ?_ ?_); kernel_rfl; kernel_rfl; intro _ _|(with_reducible refine Rg.plan_take ?_ ?_ ?_); kernel_rfl; kernel_rfl; intro _ _|(with_reducible refine Rg.plan_keep ?_ ?_); kernel_rfl; intro K hK|refine hK _ _ (Rg.Keep.refl _) ?_; clear hK|refine hK _ _ (Rg.Keep.of_below (by assumption)) ?_; clear hK|(with_reducible refine Rg.plan_skip ?_ ?_); kernel_rfl|(with_reducible refine Rg.plan_done ?_)|(with_reducible refine Rg.calm_normal ?_))
     go_roundw
     case rel =>
      refine ⟨k + 1, by omega, by go_num, ?_, ?_, ?_, (hb.setCell (by simp <;> omega) _).drew⟩
      ·rw [row?_drew, row?_setCell_eq H0.out, bvs_setn]; exact congrArg (fun l => some (bvs l)) G.out
      ·rw [row?_drew, row?_setCell_ne _ _ _ _ (by simp <;> omega)]; exact H1.out
      ·rw [row?_drew, row?_setCell_ne _ _ _ _ (by simp <;> omega)]; exact H2.out
     case measure => simp [intOf]; omega
    ·go_wp2_with fail
     obtain rfl : k = 16 := by omega
     rw [upto_full] at h0
     have zl := hb.size
     exact ret16 (w.heap.size + 1) (bvs (add S F)) rfl rfl rfl (row?_setRow_eq h2) (by rw [bvs_size]; exact add_length _ _) ⟨by rw [hT], below_setRow hb (by omega) _⟩
end Go.Proofs.Ytjlpppnpdgenfaa

end
section
namespace Go.Proofs.Ytjlpppnpdgenfaa
open Go.RowKit Go.Rw Aes Gcm
attribute [local go_sem ↓] ld12 ld16 st16 al16 shift_shl8 shift_shr8 shift_shr32 shift_shr64 bvs_getElem?
attribute [local go_sem] rld12 rld16 rst16 ral16 setRow_alloc_at setRow_alloc_past setRow_drew bvs_setn
set_option maxRecDepth 100000 in
set_option maxHeartbeats 1000000 in
theorem rseal_any (key nonce text data : List UInt8) (hk : key.length = 16) (hn : nonce.length = 12) (ht : text.length ≤ 1000000) (hdl : data.length ≤ 1000000) (vs vd : Value) (w : World) (hs : Sl w vs text) (hd : Sl w vd data) :
  Calls Try.prog 34 #[.agg (bvs key), .agg (bvs nonce), vs, vd] w fun e w' =>
   ∃ v, e = .returned v ∧ w'.ownsRow w.heap.size 5 1 v (text.length + 16) ((sealed key nonce text data).map bv) ∧ Below w.heap.size w w' := by
 obtain ⟨i0, hi, hz0, hz1, hz2⟩ := info_parts info8g
 go_enter Try.func34, Try.ntmps34
 go_wp2_with fail
 refine (rnew_any key hk _).mono ?_
 rintro e w1 ⟨B, rfl, hB, hBl, h1⟩
 have z1 := h1.size
 simp at z1 hBl
 have a1 : row? w1 (w.heap.size + 1) = some (bvs nonce) := by rw [row?_below h1 (by simp)]; simp [go_sem]
 have b1 : Below w.heap.size w w1 := (bel2a w _ _).trans (h1.mono (by simp; omega))
 clear h1
 go_wp2_with fail
 refine (turn_any key nonce text hk hn ht _ B _ hB (hs.below b1)).mono ?_
 rintro e wA ⟨g, rfl, hown, hA⟩
 have zA := hA.size
 have qB := row?_lt hB
 have a2 : row? wA (w.heap.size + 1) = some (bvs nonce) := by rw [row?_below hA (by omega)]; exact a1
 have aB : row? wA B = some (bvs (cipher key)) := by rw [row?_below hA qB]; exact hB
 have ab : Below w.heap.size w wA := b1.trans (hA.mono (by omega))
 have hg := hown.lt g rfl
 have hso : Sl wA (.slice (some ⟨g, 0, none⟩) text.length text.length) (enc key nonce text) :=
  Own.sl (l := enc key nonce text) (B := w1.heap.size) (e := 5) (by rw [enc_length]; exact hown)
 clear hA a1
 go_wp2_with fail
 refine (rtag_any key nonce (enc key nonce text) data hk hn (by rw [enc_length]; exact ht) hdl _ _ B _ aB hso (hd.below ab)).mono ?_
 rintro e wB ⟨rfl, hB'⟩
 have zB := hB'.size
 have bb : Below w.heap.size w wB := ab.trans (hB'.mono (by omega))
 have HO2 := Lib.hid (own_same (w' := wB.alloc (.cells (bvs (tag key nonce (enc key nonce text) data)) 22)) hown (by rw [heap_alloc_old _ _ (by omega)]; exact hB'.block g (by omega)))
 have ht16 : (tag key nonce (enc key nonce text) data).length = 16 := tag_length _ _ _ _
 clear hB' hown hso a2 aB
 generalize hT : tag key nonce (enc key nonce text) data = T at *
 go_wp2_with (at_builtin; refine wpList_append_own _ rfl _ _ 27 rfl w1.heap.size 5 i0 (.int .u8 0) 1 1 Try.underlying27 hi hz0 hz1 hz2 rfl (by decide) _ text.length _ rfl HO2.out ⟨_, 0, none⟩ 16 16 (T.map bv) rfl (by simp [ht16]) ?c1 ?c2 ?c3 ?c4 ?c5 ?_)
 case c1 =>
  intro j u hj
  have hjl : j < 16 := by have := (List.getElem?_eq_some_iff.1 hj).1; simpa [ht16] using this
  rw [Addr.add_lit, row?_cell (row?_alloc_at wB (bvs T) 22 _ rfl), bvs_getElem?, Nat.zero_add, if_pos (by omega), ← hj]
  simp [nth, bv, n8, show j < T.length by omega]
 case c2 => exact map_bv_one _
 case c3 => unfold maxLen; omega
 case c4 => omega
 case c5 => simp; omega
 intro v' w2 hown2 hgrow2 _
 have kb : Below w.heap.size w w2 := (bb.alloc (by have := bb.size; omega) _).grown hgrow2 (by have := bb.size; simp; omega) (by intro j hj; cases hj; show w.heap.size ≤ g; omega)
 have hown3 : w2.ownsRow w.heap.size 5 1 v' (text.length + 16) ((sealed key nonce text data).map bv) := by
  have e : (sealed key nonce text data).map bv = (enc key nonce text).map bv ++ T.map bv := by rw [sealed, hT, List.map_append]
  rw [e]
  exact own_lower hown2 (by omega)
 clear hown2 hgrow2 HO2
 have H3 := Lib.hid hown3
 clear hown3
 go_wp2_with fail
 go_ret
 exact ⟨_, rfl, H3.out, kb⟩
set_option maxRecDepth 100000 in
set_option maxHeartbeats 1000000 in
theorem ropen_any (key nonce s data : List UInt8) (hk : key.length = 16) (hn : nonce.length = 12) (ht : s.length ≤ 1000000) (hdl : data.length ≤ 1000000) (vs vd : Value) (w : World) (hs : Sl w vs s) (hd : Sl w vd data) :
  Calls Try.prog 44 #[.agg (bvs key), .agg (bvs nonce), vs, vd] w fun e w' =>
   ∃ v, e = .returned (.tuple #[v, .int .i64 ((opened key nonce s data).1 : Nat)]) ∧ w'.ownsRow w.heap.size 5 1 v (opened key nonce s data).2.length ((opened key nonce s data).2.map bv) ∧ Below w.heap.size w w' := by
 have hs0 := hs
 obtain ⟨ao, cap, rfl, hc, hnn, hp⟩ := hs0
 by_cases hshort : s.length < 16
 ·have e : opened key nonce s data = (3, []) := by unfold opened; rw [if_pos hshort]
  rw [e]
  clear e hp
  go_enter Try.func44, Try.ntmps44
  go_wp2_with fail
  go_ret2
  exact ⟨_, rfl, World.ownsRow_nil _ _ _ _, bel2a w _ _⟩
 ·obtain ⟨m, hm⟩ : ∃ m, s.length = m + 16 := ⟨s.length - 16, by omega⟩
  obtain ⟨b, off, rfl, hcell⟩ := hp (by omega)
  have hcm := hs.cut 0 m (by omega) (by omega)
  rw [List.drop_zero, Nat.sub_zero, Nat.sub_zero] at hcm
  have hcl := hs.cut m s.length (by omega) (Nat.le_refl _)
  rw [List.take_length, show s.length - m = 16 by omega] at hcl
  have hcA : cutA (some ⟨b, off, none⟩) 0 cap = some ⟨b, off, none⟩ := by unfold cutA; split <;> simp [Addr.add_lit]
  rw [hcA] at hcm
  have hcut : ∀ W, (Instr.sliceAt 27 (.slice (some ⟨b, off, none⟩) s.length cap) none (some (.int .i64 (m : Nat))) none).run Try.prog W = .ok (.slice (some ⟨b, off, none⟩) m cap) W := fun W => by
   rw [cut_h TBg W _ _ _ _ _ (by omega) (by omega), hcA]; rfl
  have hcut2 : ∀ W, (Instr.sliceAt 27 (.slice (some ⟨b, off, none⟩) s.length cap) (some (.int .i64 (m : Nat))) none none).run Try.prog W = .ok (.slice (cutA (some ⟨b, off, none⟩) m cap) 16 (cap - m)) W := fun W => by
   rw [cut_l TBg W _ _ _ _ _ (by omega) (by omega)]
   show Result.ok (Value.slice (cutA (some ⟨b, off, none⟩) m cap) (s.length - m) (cap - m)) W = _
   rw [show s.length - m = 16 by omega]
  generalize cutA (some ⟨b, off, none⟩) m cap = aC at *
  have hop : opened key nonce s data = if tag key nonce (s.take m) data = s.drop m then (0, enc key nonce (s.take m)) else (7, []) := by
   unfold opened; rw [if_neg hshort, show s.length - 16 = m by omega]
  have hmm : (s.length : Int) - 16 = (m : Nat) := by omega
  have htm : (s.take m).length = m := by rw [List.length_take]; omega
  have HP := Lib.hid hop
  have HM := Lib.hid hm
  clear hcell hp hop hm hnn
  go_enter Try.func44, Try.ntmps44
  go_wp2_with fail
  refine (rnew_any key hk _).mono ?_
  rintro e w1 ⟨B, rfl, hB, hBl, h1⟩
  have z1 := h1.size
  simp at z1 hBl
  have qB := row?_lt hB
  have w1n : row? w1 (w.heap.size + 1) = some (bvs nonce) := by rw [row?_below h1 (by simp)]; simp [go_sem]
  have bW : Below w.heap.size w w1.drew := ((bel2a w _ _).trans (h1.mono (by simp; omega))).drew
  clear h1
  go_wp2_with fail
  refine Rg.wp_region_flo [(0, 3), (1, 0), (2, 3), (3, 3), (4, 3), (5, 3)] [
    ⟨6, 26, [], false, fun v _ => v = .agg (bvs (tag key nonce (s.take m) data))⟩,
    ⟨7, 12, [], true, fun v w' => ∃ B, v = .pointer (some ⟨B, 0, none⟩) ∧ row? w' B = some (bvs (zeros 16))⟩] [(6, 26, []), (7, 12, [])] [8] (by kernel_rfl) (by kernel_rfl) rfl ?_
  simp only [Rg.row, Rg.PT.map, List.getD_cons_zero, List.getD_cons_succ]
  go_wp2_with (first
   |(with_reducible refine Rg.plan_pure ?_ ?_ ?_); kernel_rfl; kernel_rfl; intro _ _|(with_reducible refine Rg.plan_take ?_ ?_ ?_); kernel_rfl; kernel_rfl; intro _ _|(with_reducible refine Rg.plan_keep ?_ ?_); kernel_rfl; intro K hK|refine hK _ _ (Rg.Keep.refl _) ?_; clear hK|refine hK _ _ (Rg.Keep.of_below (by assumption)) ?_; clear hK|(with_reducible refine Rg.plan_skip ?_ ?_); kernel_rfl|(with_reducible refine Rg.plan_done ?_)|(with_reducible refine Rg.calm_normal ?_))
  have wn2 : row? w1.drew (w.heap.size + 1) = some (bvs nonce) := w1n
  have hB2 : row? w1.drew B = some (bvs (cipher key)) := hB
  refine Rg.phase_done (Rg.Phase.mk ?_ ?_ ?_)
  ·refine List.forall_mem_cons.2 ⟨?_, List.forall_mem_cons.2 ⟨?_, fun r hr => (by cases hr)⟩⟩
   ·exact fun v w1 w2 _ h => h
   ·rintro v w1 w2 hb ⟨B, e, h⟩; exact ⟨B, e, Rg.stable_row hb h⟩
  ·refine List.forall_mem_cons.2 ⟨?_, List.forall_mem_cons.2 ⟨?_, fun r hr => (by cases hr)⟩⟩
   ·intro us wx hbx hdep K hK
    have hbw := bW.trans (hbx.mono bW.size)
    obtain ⟨ao2, cap2, rfl, _⟩ := id hd
    refine Rg.exec_call (args := #[.pointer (some ⟨B, 0, none⟩), .agg (bvs nonce), .slice (some ⟨b, off, none⟩) m cap, .slice ao2 data.length cap2]) (by simp [go_sem, execOp, Rg.puts]) (rtag_any key nonce (s.take m) data hk hn (by omega) hdl _ _ B _ (Rg.stable_row hbx hB2) (hcm.below hbw) (hd.below hbw)) ?_
    rintro e wy ⟨rfl, hy⟩
    exact ⟨_, rfl, hK _ _ _ rfl rfl hy (fun h => (by cases h))⟩
   ·intro us wx hbx hdep K hK
    exact Rg.exec_value (by simp [go_sem, execOp, Rg.puts]; rfl) (hK _ _ _ rfl ⟨_, rfl, row?_alloc_at _ _ _ _ rfl⟩ ((Below.refl _ _).alloc (Nat.le_refl _) _) (fun _ => ⟨Nat.le_refl _, by simp [Rg.vblk]⟩))
  ·intro us wZ hbZ hJ hfr hne
   have hfr0 : w1.drew.heap.size ≤ Rg.vblk (us 7) := (hfr _ (List.getElem_mem (n := 1) (by simp)) rfl).1
   simp only [List.forall_mem_cons] at hJ
   obtain ⟨e6, ⟨BT, e7, rT⟩, -⟩ := hJ
   simp only [e7, Rg.vblk] at hfr0
   simp at hfr0
   have z1 : row? wZ (w.heap.size + 1) = some (bvs nonce) := Rg.stable_row hbZ wn2
   have zB : row? wZ B = some (bvs (cipher key)) := Rg.stable_row hbZ hB2
   have zb : Below w.heap.size w wZ := bW.trans (hbZ.mono bW.size)
   generalize hT : tag key nonce (s.take m) data = T at *
   have hTl : T.length = 16 := by rw [← hT]; exact tag_length _ _ _ _
   simp only [Rg.puts, List.map_cons, List.map_nil, List.getD_cons_zero, List.getD_cons_succ]
   simp only [e6, e7]
   have E1 : row? (wZ.setRow BT (bvs T)) BT = some (bvs T) := row?_setRow_eq rT (c' := bvs T)
   have E2 : row? (wZ.setRow BT (bvs T)) B = some (bvs (cipher key)) := by rw [row?_setRow_ne _ _ _ _ (by omega)]; exact zB
   have E3 : row? (wZ.setRow BT (bvs T)) (w.heap.size + 1) = some (bvs nonce) := by rw [row?_setRow_ne _ _ _ _ (by omega)]; exact z1
   have zE := below_setRow zb (by omega : w.heap.size ≤ BT) (bvs T)
   clear z1 zB hne hfr w1n wn2 hB hB2
   go_wp2_with (first
    |(with_reducible refine Rg.plan_pure ?_ ?_ ?_); kernel_rfl; kernel_rfl; intro _ _|(with_reducible refine Rg.plan_take ?_ ?_ ?_); kernel_rfl; kernel_rfl; intro _ _|(with_reducible refine Rg.plan_keep ?_ ?_); kernel_rfl; intro K hK|refine hK _ _ (Rg.Keep.refl _) ?_; clear hK|refine hK _ _ (Rg.Keep.of_below (by assumption)) ?_; clear hK|(with_reducible refine Rg.plan_skip ?_ ?_); kernel_rfl|(with_reducible refine Rg.plan_done ?_)|(with_reducible refine Rg.calm_normal ?_))
   clear rT
   refine Rg.wp_region_flo [(0, 3), (2, 3), (3, 3), (4, 3)] [
     ⟨1, 28, [], false, fun v _ => v = .string (strB T)⟩,
     ⟨5, 32, [], false, fun v _ => v = .string (strB (s.drop m))⟩,
     ⟨6, 33, [1, 5], false, fun v _ => v = .bool (!(T == s.drop m))⟩] [(1, 28, []), (5, 32, []), (6, 33, [1, 5])] [] (by kernel_rfl) (by kernel_rfl) rfl ?_
   simp only [Rg.row, Rg.PT.map, List.getD_cons_zero, List.getD_cons_succ]
   go_wp2_with (first
    |(with_reducible refine Rg.plan_pure ?_ ?_ ?_); kernel_rfl; kernel_rfl; intro _ _|(with_reducible refine Rg.plan_take ?_ ?_ ?_); kernel_rfl; kernel_rfl; intro _ _|(with_reducible refine Rg.plan_keep ?_ ?_); kernel_rfl; intro K hK|refine hK _ _ (Rg.Keep.refl _) ?_; clear hK|refine hK _ _ (Rg.Keep.of_below (by assumption)) ?_; clear hK|(with_reducible refine Rg.plan_skip ?_ ?_); kernel_rfl|(with_reducible refine Rg.plan_done ?_)|(with_reducible refine Rg.calm_normal ?_))
   refine Rg.phase_done (Rg.Phase.mk ?_ ?_ ?_)
   ·refine List.forall_mem_cons.2 ⟨?_, List.forall_mem_cons.2 ⟨?_, List.forall_mem_cons.2 ⟨?_, fun r hr => (by cases hr)⟩⟩⟩ <;> exact fun v w1 w2 _ h => h
   ·refine List.forall_mem_cons.2 ⟨?_, List.forall_mem_cons.2 ⟨?_, List.forall_mem_cons.2 ⟨?_, fun r hr => (by cases hr)⟩⟩⟩
    ·intro us wx hbx hdep K hK
     have hsl := Sl.row (Rg.stable_row hbx (show row? (wZ.setRow BT (bvs T)).drew BT = some (bvs T) from E1))
     rw [hTl] at hsl
     exact Rg.exec_conv rfl (by simp [go_sem, Rg.puts]) (conv_sl hsl Try.underlying27 Try.underlying5 Try.underlying9) (hK _ _ _ rfl rfl (Below.refl _ _) (fun h => (by cases h)))
    ·intro us wx hbx hdep K hK
     have hbw := zE.drew.trans (hbx.mono zE.drew.size)
     exact Rg.exec_conv rfl (by simp [go_sem, Rg.puts]) (conv_sl (hcl.below hbw) Try.underlying27 Try.underlying5 Try.underlying9) (hK _ _ _ rfl rfl (Below.refl _ _) (fun h => (by cases h)))
    ·intro us wx hbx hdep K hK
     have d1 : us 1 = .string (strB T) := (List.forall_mem_cons.1 hdep).1 (by simp)
     have d2 : us 5 = .string (strB (s.drop m)) := (List.forall_mem_cons.1 (List.forall_mem_cons.1 hdep).2).1 (by simp)
     exact Rg.exec_value (w' := wx) (v := .bool (!(T == s.drop m))) (by simp [go_sem, execOp, Rg.puts, d1, d2]) (hK _ _ _ rfl rfl (Below.refl _ _) (fun h => (by cases h)))
   ·intro us wY hbY hJ hfr hne
    simp only [List.forall_mem_cons] at hJ
    obtain ⟨d1, d2, d3, -⟩ := hJ
    simp only [Rg.puts, List.map_nil]
    simp only [d1, d2, d3]
    have F2 : row? wY B = some (bvs (cipher key)) := Rg.stable_row hbY (show row? (wZ.setRow BT (bvs T)).drew B = some (bvs (cipher key)) from E2)
    have F3 : row? wY (w.heap.size + 1) = some (bvs nonce) := Rg.stable_row hbY (show row? (wZ.setRow BT (bvs T)).drew (w.heap.size + 1) = some (bvs nonce) from E3)
    have FB := zE.drew.trans (hbY.mono zE.drew.size)
    clear hfr hne hbY E1 E2 E3 zE
    by_cases hx : T = s.drop m
    ·have e : opened key nonce s data = (0, enc key nonce (s.take m)) := by rw [HP.out, if_pos hx]
     have HE := Lib.hid e
     have hxb : (T == s.drop m) = true := by simpa using hx
     rw [hxb]
     clear e hx hxb
     go_wp2_with (first
      |(with_reducible refine Rg.plan_pure ?_ ?_ ?_); kernel_rfl; kernel_rfl; intro _ _|(with_reducible refine Rg.plan_take ?_ ?_ ?_); kernel_rfl; kernel_rfl; intro _ _|(with_reducible refine Rg.plan_keep ?_ ?_); kernel_rfl; intro K hK|refine hK _ _ (Rg.Keep.refl _) ?_; clear hK|refine hK _ _ (Rg.Keep.of_below (by assumption)) ?_; clear hK|(with_reducible refine Rg.plan_skip ?_ ?_); kernel_rfl|(with_reducible refine Rg.plan_done ?_)|(with_reducible refine Rg.calm_normal ?_))
     refine Rg.wp_region_plan (Rg.row [(0, 3), (1, 0), (2, 3), (3, 3), (4, 3), (5, 1), (6, 3), (7, 3)] []) [] (by kernel_rfl) (by kernel_rfl) ?_
     simp only [Rg.row, Rg.PT.map, List.map_nil, List.getD_cons_zero, List.getD_cons_succ]
     go_wp2_with (first
      |(with_reducible refine Rg.plan_pure ?_ ?_ ?_); kernel_rfl; kernel_rfl; intro _ _|(with_reducible refine Rg.plan_take ?_ ?_ ?_); kernel_rfl; kernel_rfl; intro _ _|(with_reducible refine Rg.plan_keep ?_ ?_); kernel_rfl; intro K hK|refine hK _ _ (Rg.Keep.refl _) ?_; clear hK|refine hK _ _ (Rg.Keep.of_below (by assumption)) ?_; clear hK|(with_reducible refine Rg.plan_skip ?_ ?_); kernel_rfl|(with_reducible refine Rg.plan_done ?_)|(with_reducible refine Rg.calm_normal ?_))
     refine (turn_any key nonce (s.take m) hk hn (by omega) _ B wY.drew F2 (hcm.below FB.drew)).mono ?_
     rintro e wA ⟨g, rfl, hown, hA⟩
     have kb := FB.drew.trans (hA.mono FB.drew.size)
     refine hK _ _ (Rg.Keep.of_below hA) ?_
     clear hK
     have hown2 := own_lower hown FB.drew.size
     have HO := Lib.hid hown2
     clear hown hown2 hA
     go_wp2_with (first
      |(with_reducible refine Rg.plan_pure ?_ ?_ ?_); kernel_rfl; kernel_rfl; intro _ _|(with_reducible refine Rg.plan_take ?_ ?_ ?_); kernel_rfl; kernel_rfl; intro _ _|(with_reducible refine Rg.plan_keep ?_ ?_); kernel_rfl; intro K hK|refine hK _ _ (Rg.Keep.refl _) ?_; clear hK|refine hK _ _ (Rg.Keep.of_below (by assumption)) ?_; clear hK|(with_reducible refine Rg.plan_skip ?_ ?_); kernel_rfl|(with_reducible refine Rg.plan_done ?_)|(with_reducible refine Rg.calm_normal ?_))
     go_ret2
     rw [HE.out]
     refine ⟨_, rfl, ?_, kb⟩
     rw [enc_length]; exact HO.out
    ·have e : opened key nonce s data = (7, []) := by rw [HP.out, if_neg hx]
     have HE := Lib.hid e
     have hxb : (T == s.drop m) = false := by simpa using hx
     rw [hxb]
     clear e hx hxb
     go_wp2_with (first
      |(with_reducible refine Rg.plan_pure ?_ ?_ ?_); kernel_rfl; kernel_rfl; intro _ _|(with_reducible refine Rg.plan_take ?_ ?_ ?_); kernel_rfl; kernel_rfl; intro _ _|(with_reducible refine Rg.plan_keep ?_ ?_); kernel_rfl; intro K hK|refine hK _ _ (Rg.Keep.refl _) ?_; clear hK|refine hK _ _ (Rg.Keep.of_below (by assumption)) ?_; clear hK|(with_reducible refine Rg.plan_skip ?_ ?_); kernel_rfl|(with_reducible refine Rg.plan_done ?_)|(with_reducible refine Rg.calm_normal ?_))
     go_ret2
     rw [HE.out]
     exact ⟨_, rfl, World.ownsRow_nil _ _ _ _, FB⟩
end Go.Proofs.Ytjlpppnpdgenfaa

end
