/- The statement GcmAdds holds: what is crossed of two texts of one length is hashed to what is crossed of their hashes; so is each one's product. No condition. -/
import Derived.Test.YtdfblojnkchpdaaGcmL1
import Derived.Test.YtdfblojnkchpdaaGcmT
import Derived.Test.YtdfblojnkchpdaaLawS
import Derived.Test.YtdfblojnkchpdaaLibE
import Derived.RegionTactic
import Derived.BigRegion
namespace Go.Rg
open Go Go.RowKit Go.Rw
theorem exec_append {P : Program} {o : Oper} {a : Act} {w : World} {K : Act → World → Prop} {t e : TypeId} {i : TypeInfo} (x : Operand) (ho : o.op = .call { callee := .builtin .append, args := #[.const (.slice none 0 0), x], argTypes := #[t, t] })
    (ht : P.underlying t = some (.slice e)) (hi : P.info? e = some i) (hz : i.zero = some (.int .u8 0)) (hsz : i.size = 1) (hby : i.bytes = 1) {v : Value} {l : List UInt8} (hx : a.eval x = v) (hs : Sl w v l) (hl : l.length ≤ 1000000)
    (h : ∀ v' w', w'.ownsRow w.heap.size e 1 v' l.length (l.map bv) → Below w.heap.size w w' → K (a.put o.dst v') w') : o.wp P a w K NoQ := by
  obtain ⟨ao, cap, rfl, hc, hnn, hp⟩ := hs
  cases ao with
  | none =>
    obtain rfl := hnn rfl
    obtain rfl : l = [] := List.eq_nil_of_length_eq_zero (by omega)
    have hrun := run_append_owned_none (P := P) (w := w) w.heap.size t o.type e i 1 ht hi (.slice none 0 0) 0 [] (World.ownsRow_nil _ _ _ _)
    refine exec_value (v := .slice none 0 0) (w' := w) ?_ (h _ _ (World.ownsRow_nil _ _ _ _) (Below.refl _ _))
    have hx' : a.eval x = .slice none 0 0 := hx
    have hc' : a.eval (.const (.slice none 0 0)) = .slice none 0 0 := rfl
    simp [execOp, ho, resolve, invoke, builtin, hx', hc', hrun, Result.andThen]
  | some ad =>
    refine wp_append_own w (.const (.slice none 0 0)) x t ho w.heap.size e i (.int .u8 0) 1 1 ht hi hz hsz hby rfl (by decide) (.slice none 0 0) 0 [] rfl (World.ownsRow_nil _ _ _ _) ad l.length cap (l.map bv) hx (by simp) ?_ (map_bv_one _) (by unfold maxLen; omega) (by omega) (Nat.le_refl _) ?_
    · intro j u hj
      have hjl : j < l.length := by have := (List.getElem?_eq_some_iff.1 hj).1; simpa using this
      obtain ⟨b, off, e, hcell⟩ := hp (by omega)
      cases e
      rw [Addr.add_lit, hcell j hjl, ← hj]
      simp [nth, bv, n8, hjl]
    · intro v' w' h1 h2 _
      rw [Nat.zero_add, List.nil_append] at h1
      exact h v' w' h1 ((Below.refl _ _).grown h2 (Nat.le_refl _) (by intro k hk; cases hk))
end Go.Rg
namespace Gcm
open Go.Rw Aes
def xorF (a b : List UInt8) (i : Nat) : UInt8 := nth a i ^^^ nth b i
def crossed (a b : List UInt8) (n : Nat) : List UInt8 := (List.range n).map (xorF a b)
theorem crossed_length (a b : List UInt8) (n : Nat) : (crossed a b n).length = n := by simp [crossed]
theorem nth_take (a : List UInt8) (n i : Nat) (h : i < n) : nth (a.take n) i = nth a i := by unfold nth; rw [List.getElem?_take, if_pos h]
theorem pad_crossed (a b : List UInt8) (n k : Nat) : padAt (crossed a b n) k = add (padAt (a.take n) k) (padAt (b.take n) k) := by
  apply ext16 (n := 16) (padAt_length _ _) (add_length _ _)
  intro j hj
  rw [padAt_get hj]
  show _ = nth (row16 (addF (padAt (a.take n) k) (padAt (b.take n) k))) j
  rw [row16_get hj, addF, padAt_get hj, padAt_get hj]
  by_cases h : 16 * k + j < n
  · rw [nth_take _ _ _ h, nth_take _ _ _ h]; simp [nth, crossed, h, xorF]
  · have e : ∀ l : List UInt8, l.length ≤ n → nth l (16 * k + j) = 0 := fun l hl => by unfold nth; rw [List.getElem?_eq_none (by omega)]; rfl
    rw [e _ (by rw [crossed_length]; exact Nat.le_refl _), e _ (by rw [List.length_take]; omega), e _ (by rw [List.length_take]; omega), UInt8.xor_self]
theorem hashK_crossed (key y y' : Wd) (a b : List UInt8) (n : Nat) : ∀ k, hashK key (wxor y y') (crossed a b n) k = wxor (hashK key y (a.take n) k) (hashK key y' (b.take n) k)
  | 0 => rfl
  | k + 1 => by
    simp only [hashK]
    rw [hashK_crossed key y y' a b n k, pad_crossed, wof_add, wxor_four, timesW_addL]
theorem hash_crossed (h a b : List UInt8) (n : Nat) (ha : n ≤ a.length) (hb : n ≤ b.length) : hash h [crossed a b n] = add (hash h [a.take n]) (hash h [b.take n]) := by
  have e : ∀ l : List UInt8, l.length = n → hashParts (wof h) [l] = hashK (wof h) (0, 0) l ((n + 15) / 16) := fun l hl => by
    show hashPart (wof h) (0, 0) l = _
    rw [hashPart, hl]
  unfold hash
  rw [e _ (crossed_length _ _ _), e _ (by rw [List.length_take]; omega), e _ (by rw [List.length_take]; omega), ← blk_xor]
  have := hashK_crossed (wof h) (0, 0) (0, 0) a b n ((n + 15) / 16)
  rw [wxor_zero] at this
  rw [this]
end Gcm
namespace Go.Proofs.Ytdfblojnkchpdaa
open Go.RowKit Go.Rw Aes Gcm Go.ChangeShapes Go.WideShapes Go.ChangeAt
theorem infoB : (Try.prog.info? 5).map (·.size) = some 1 := by kernel_rfl
theorem gEq16 (a b : List UInt8) (ha : a.length = 16) (hb : b.length = 16) (w : World) : (Op.equalIn 10000 22 (.agg (bvs a)) (.agg (bvs b))).run Try.prog w = .ok (a == b) w :=
  run_equalIn_bytes 9998 Try.underlying22 Try.underlying5 infoB a b ha hb w
attribute [local go_sem high] gEq16
attribute [local go_sem ↓] ld12 ld16 st16 al16 shift_shl8 shift_shr8 bvs_getElem?
attribute [local go_sem] rld12 rld16 rst16 ral16 setRow_alloc_at setRow_alloc_past setRow_drew bvs_setn
theorem pts_one {w : World} {B : Nat} {u : Value} {a : List UInt8} (h : row? w B = some #[u]) (h1 : Sl w u a) : Pts w (.slice (some ⟨B, 0, none⟩) 1 1) [a] := by
  refine ⟨_, 1, rfl, fun _ => ⟨B, 0, rfl, fun k hk => ?_⟩⟩
  rw [row?_cell h]
  match k, hk with
  | 0, _ => exact ⟨_, rfl, h1⟩
theorem Pts.below {w w' : World} {v : Value} {ps : List (List UInt8)} (h : Pts w v ps) (hb : Below w.heap.size w w') : Pts w' v ps := by
  obtain ⟨ao, cap, rfl, hp⟩ := h
  refine ⟨ao, cap, rfl, fun h0 => ?_⟩
  obtain ⟨b, off, rfl, hc⟩ := hp h0
  refine ⟨b, off, rfl, fun k hk => ?_⟩
  obtain ⟨u, hu, hs⟩ := hc k hk
  exact ⟨u, below_cell hb hu (cell_lt hu), hs.below hb⟩
theorem exec_load16 {o : Oper} {a : Act} {w : World} {K : Act → World → Prop} {y : Operand} {b : Nat} {l : List UInt8} (ho : o.op = .load 22 y) (ha : a.eval y = .pointer (some ⟨b, 0, none⟩)) (hr : row? w b = some (bvs l)) (hl : l.length = 16)
    (h : K (a.put o.dst (.agg (bvs l))) w) : o.wp Try.prog a w K Rg.NoQ := by
  refine Rg.exec_value (v := .agg (bvs l)) (w' := w) ?_ h
  have e := rld16 w b (by rw [hr]; simp [go_sem, hl])
  rw [hr] at e
  simp only [execOp, ho, ha, ld16]
  simp [go_sem, hr, hl]
theorem bel3' (w : World) (a b c : Obj) : Below w.heap.size w (((w.alloc a).alloc b).alloc c) := bel3 w a b c

set_option maxRecDepth 20000 in
set_option maxHeartbeats 4000000 in
theorem addsLaw_any (h x y a b : List UInt8) (hh : h.length = 16) (hx : x.length = 16) (hy : y.length = 16) (va vb : Value) (w : World) (hsa : Sl w va a) (hsb : Sl w vb b) :
    Calls Try.prog 8 #[.agg (bvs h), .agg (bvs x), .agg (bvs y), va, vb] w fun e w' => e = .returned (.bool true) ∧ Below w.heap.size w w' := by
  have hsa0 := hsa
  have hsb0 := hsb
  obtain ⟨ao, cap, rfl, hc, hnn, hp⟩ := hsa0
  obtain ⟨ao2, cap2, rfl, hc2, hnn2, hp2⟩ := hsb0
  obtain ⟨i0, hi, hz0, hz1, hz2⟩ := info_parts info8
  clear hnn hnn2
  by_cases hab : a.length ≤ b.length
  · by_cases h1 : a.length ≤ 100
    · skip
      go_enter Try.func8, Try.ntmps8
      go_wp2_with (at_make; refine wpList_make_full _ rfl _ _ 24 rfl (w.heap.size + 3) 5 i0 (.int .u8 0) 1 Try.underlying24 hi hz0 hz1 _ _ _ _ (a.length) rfl rfl rfl rfl ?b1 ?b2 ?b3 ?_)
      case b1 => rw [hz2]; omega
      case b2 => unfold maxLen; omega
      case b3 => simp
      intro w1 hown1 hgrow1
      rw [zeros_made] at hown1
      have z1 := hgrow1.size
      simp at z1 hown1
      have z2 := (hown1.lt _ rfl).2
      have r0 : row? w1 w.heap.size = some (bvs h) := by
        rw [grown_row0 hgrow1 (by simp; omega)]; first | done | simp [go_sem]
      have r1 : row? w1 (w.heap.size + 1) = some (bvs x) := by
        rw [grown_row0 hgrow1 (by simp <;> omega)]; first | done | simp [go_sem]
      have r2 : row? w1 (w.heap.size + 2) = some (bvs y) := by
        rw [grown_row0 hgrow1 (by simp <;> omega)]; first | done | simp [go_sem] | exact row?_alloc_at _ _ _ _ (by simp)
      have b1 : Below w.heap.size w w1 := (bel3 w _ _ _).grown hgrow1 (by simp; omega) (by simp)
      have hown2 : w1.ownsRow (w.heap.size + 3) 5 1 (.slice (some ⟨w.heap.size + 1 + 1 + 1, 0, none⟩) (a.length) (a.length)) (a.length) ((upto (xorF a b) (List.replicate (a.length) 0) (a.length) 0).map bv) := by
        rw [upto_zero _ _ _ (by simp)]; simpa using hown1
      have R0 := Lib.hid r0
      have R1 := Lib.hid r1
      have R2 := Lib.hid r2
      have O1 := Lib.hid hown2
      clear hgrow1 r0 r1 r2 hown1 hown2
      go_wp2_with fail
      go_loopw [13] (fun v wr => ∃ k : Nat, k ≤ a.length ∧ v = .int .i64 k ∧ wr.ownsRow (w.heap.size + 3) 5 1 (.slice (some ⟨w.heap.size + 1 + 1 + 1, 0, none⟩) (a.length) (a.length)) (a.length) ((upto (xorF a b) (List.replicate (a.length) 0) (a.length) k).map bv)
          ∧ row? wr w.heap.size = some (bvs h) ∧ row? wr (w.heap.size + 1) = some (bvs x) ∧ row? wr (w.heap.size + 2) = some (bvs y) ∧ Below w.heap.size w wr) (fun v _ => a.length - (intOf v).toNat)
      case atStart => exact ⟨0, by omega, rfl, O1.out, R0.out, R1.out, R2.out, b1⟩
      case round =>
        obtain ⟨k, hk', rfl, hown, r0, r1, r2, hb⟩ := hrel
        by_cases hlt : k < a.length
        · obtain ⟨b1, off1, rfl, hcell1⟩ := hp (by omega)
          obtain ⟨b2, off2, rfl, hcell2⟩ := hp2 (by omega)
          have c1 := below_cell hb (hcell1 k (by omega)) (cell_lt (hcell1 k (by omega)))
          have c2 := below_cell hb (hcell2 k (by omega)) (cell_lt (hcell2 k (by omega)))
          have HC1 := Lib.hid hcell1
          have HC2 := Lib.hid hcell2
          have hlu : (upto (xorF a b) (List.replicate (a.length) 0) (a.length) k).length = a.length := upto_length ..
          have cO : wr.cell? ⟨w.heap.size + 1 + 1 + 1, k, none⟩ = some (.int .u8 (n8 (nth (upto (xorF a b) (List.replicate (a.length) 0) (a.length) k) k) : Nat)) := by
            rw [hown.cellAt k (by omega)]
            simp [nth, bv, n8, hlu, hlt]
          have fO := hown.frozenAt k
          have eU := upto_set (xorF a b) (List.replicate (a.length) 0) (a.length) k hlt
          have hst := own_stored hown k (xorF a b k)
          rw [eU] at hst
          have hst2 : (wr.setCell ⟨w.heap.size + 1 + 1 + 1, k, none⟩ (.int .u8 (n8 (nth a k ^^^ nth b k) : Nat))).ownsRow (w.heap.size + 3) 5 1 (.slice (some ⟨w.heap.size + 1 + 1 + 1, 0, none⟩) (a.length) (a.length)) (a.length) ((upto (xorF a b) (List.replicate (a.length) 0) (a.length) (k + 1)).map bv) := hst
          have HO := Lib.hid hst2
          have H0 := Lib.hid r0
          have H1 := Lib.hid r1
          have H2 := Lib.hid r2
          clear hcell1 hcell2 hown eU hst hst2 hlu r0 r1 r2
          go_wp2_with fail
          refine Rg.wp_region_plan (Rg.row [(0, 3), (1, 3), (2, 3), (3, 3), (4, 3), (5, 0), (6, 3), (7, 3), (8, 3), (9, 0), (10, 3), (11, 3)] [12]) [12] (by kernel_rfl) (by kernel_rfl) ?_
          simp only [Rg.row, Rg.PT.map, List.map_cons, List.map_nil, List.getD_cons_zero, List.getD_cons_succ]
          go_wp2_with (first
            | ((with_reducible refine Rg.plan_pure ?_ ?_ ?_); kernel_rfl; kernel_rfl; intro _ _)
            | ((with_reducible refine Rg.plan_take ?_ ?_ ?_); kernel_rfl; kernel_rfl; intro _ _)
            | ((with_reducible refine Rg.plan_keep ?_ ?_); kernel_rfl; intro K hK)
            | (refine hK _ _ (Rg.Keep.refl _) ?_; clear hK)
            | (refine hK _ _ (Rg.Keep.of_below (by assumption)) ?_; clear hK)
            | ((with_reducible refine Rg.plan_skip ?_ ?_); kernel_rfl)
            | (with_reducible refine Rg.plan_done ?_)
            | (with_reducible refine Rg.calm_normal ?_))
          go_roundw
          case rel =>
            refine ⟨k + 1, by omega, by go_num, HO.out.drew, ?_, ?_, ?_, (hb.setCell (by simp <;> omega) _).drew⟩
            · rw [row?_drew, row?_setCell_ne _ _ _ _ (by simp <;> omega)]; exact H0.out
            · rw [row?_drew, row?_setCell_ne _ _ _ _ (by simp <;> omega)]; exact H1.out
            · rw [row?_drew, row?_setCell_ne _ _ _ _ (by simp <;> omega)]; exact H2.out
          case measure => simp [intOf]; omega
        · have hkN : k = a.length := by omega
          rw [hkN, upto_full] at hown
          have hcr : (List.range (a.length)).map (xorF a b) = crossed a b (a.length) := rfl
          rw [hcr] at hown
          have hlin := hash_crossed h a b (a.length) (by omega) (by omega)
          have hCl := crossed_length a b (a.length)
          generalize crossed a b (a.length) = C at hown hlin hCl
          have sC : Sl wr (.slice (some ⟨w.heap.size + 1 + 1 + 1, 0, none⟩) (a.length) (a.length)) C := Own.sl (B := _) (e := 5) (by rw [hCl]; exact hown)
          have hca := hsa.cut 0 (a.length) (by omega) (by omega)
          have hcb := hsb.cut 0 (a.length) (by omega) (by omega)
          rw [List.drop_zero, Nat.sub_zero, Nat.sub_zero] at hca hcb
          have hcutA : ∀ W, (Instr.sliceAt 24 (.slice ao a.length cap) none (some (.int .i64 ((a.length : Nat) : Int))) none).run Try.prog W = .ok (.slice (cutA ao 0 cap) (a.length) cap) W := fun W => by
            rw [cut_h TB W _ _ _ _ _ (by omega) (by omega)]; rfl
          have hcutB : ∀ W, (Instr.sliceAt 24 (.slice ao2 b.length cap2) none (some (.int .i64 ((a.length : Nat) : Int))) none).run Try.prog W = .ok (.slice (cutA ao2 0 cap2) (a.length) cap2) W := fun W => by
            rw [cut_h TB W _ _ _ _ _ (by omega) (by omega)]; rfl
          generalize cutA ao 0 cap = aA at hca hcutA
          generalize cutA ao2 0 cap2 = aB at hcb hcutB
          have hta : (a.take (a.length)).length ≤ 100 := by rw [List.length_take]; omega
          have htb : (b.take (a.length)).length ≤ 100 := by rw [List.length_take]; omega
          generalize a.take (a.length) = A1 at hca hlin hta
          generalize b.take (a.length) = B1 at hcb hlin htb
          have hx3 : (w.heap.size + 1 + 1 + 1) < wr.heap.size := (hown.lt _ rfl).2
          clear hkN hcr hown
          go_wp2_with fail
          have d0 : row? wr.drew w.heap.size = some (bvs h) := r0
          have d1 : row? wr.drew (w.heap.size + 1) = some (bvs x) := r1
          have d2 : row? wr.drew (w.heap.size + 2) = some (bvs y) := r2
          have sC2 : Sl wr.drew (.slice (some ⟨w.heap.size + 1 + 1 + 1, 0, none⟩) (a.length) (a.length)) C := sC
          have bD : Below w.heap.size w wr.drew := hb.drew
          refine Rg.wp_region_flo [(0, 0), (1, 3), (2, 3), (3, 3), (7, 0), (8, 3), (9, 3), (10, 3), (14, 0), (15, 3)] [
              ⟨4, 53, [], false, fun v w' => Sl w' v A1⟩,
              ⟨5, 54, [4], false, fun v w' => Pts w' v [A1]⟩,
              ⟨6, 55, [4, 5], false, fun v _ => v = .agg (bvs (Gcm.hash h [A1]))⟩,
              ⟨11, 60, [6], false, fun v w' => Sl w' v B1⟩,
              ⟨12, 61, [11], false, fun v w' => Pts w' v [B1]⟩,
              ⟨13, 62, [11, 12], false, fun v _ => v = .agg (bvs (Gcm.hash h [B1]))⟩,
              ⟨16, 65, [], false, fun v w' => Pts w' v [C]⟩,
              ⟨17, 66, [13, 16], false, fun v _ => v = .agg (bvs (Gcm.hash h [C]))⟩,
              ⟨18, 14, [], true, fun v w' => ∃ B, v = .pointer (some ⟨B, 0, none⟩) ∧ row? w' B = some (bvs (zeros 16))⟩,
              ⟨19, 15, [], true, fun v w' => ∃ B, v = .pointer (some ⟨B, 0, none⟩) ∧ row? w' B = some (bvs (zeros 16))⟩,
              ⟨20, 16, [], true, fun v w' => ∃ B, v = .pointer (some ⟨B, 0, none⟩) ∧ row? w' B = some (bvs (zeros 16))⟩] [(4, 53, []), (5, 54, [4]), (6, 55, [4, 5]), (11, 60, [6]), (12, 61, [11]), (13, 62, [11, 12]), (16, 65, []), (17, 66, [13, 16]), (18, 14, []), (19, 15, []), (20, 16, [])] [21, 22, 23] (by kernel_rfl) (by kernel_rfl) rfl ?_
          simp only [Rg.row, Rg.PT.map, List.getD_cons_zero, List.getD_cons_succ]
          go_wp2_with (first
            | ((with_reducible refine Rg.plan_pure ?_ ?_ ?_); kernel_rfl; kernel_rfl; intro _ _)
            | ((with_reducible refine Rg.plan_take ?_ ?_ ?_); kernel_rfl; kernel_rfl; intro _ _)
            | ((with_reducible refine Rg.plan_keep ?_ ?_); kernel_rfl; intro K hK)
            | (refine hK _ _ (Rg.Keep.refl _) ?_; clear hK)
            | (refine hK _ _ (Rg.Keep.of_below (by assumption)) ?_; clear hK)
            | ((with_reducible refine Rg.plan_skip ?_ ?_); kernel_rfl)
            | (with_reducible refine Rg.plan_done ?_)
            | (with_reducible refine Rg.calm_normal ?_))
          refine Rg.phase_done (Rg.Phase.mk ?_ ?_ ?_)
          · refine List.forall_mem_cons.2 ⟨?_, List.forall_mem_cons.2 ⟨?_, List.forall_mem_cons.2 ⟨?_, List.forall_mem_cons.2 ⟨?_, List.forall_mem_cons.2 ⟨?_, List.forall_mem_cons.2 ⟨?_, List.forall_mem_cons.2 ⟨?_, List.forall_mem_cons.2 ⟨?_, List.forall_mem_cons.2 ⟨?_, List.forall_mem_cons.2 ⟨?_, List.forall_mem_cons.2 ⟨?_, fun r hr => (by cases hr)⟩⟩⟩⟩⟩⟩⟩⟩⟩⟩⟩
            · exact fun v w1 w2 hb h => h.below hb
            · exact fun v w1 w2 hb h => Pts.below h hb
            · exact fun v w1 w2 _ h => h
            · exact fun v w1 w2 hb h => h.below hb
            · exact fun v w1 w2 hb h => Pts.below h hb
            · exact fun v w1 w2 _ h => h
            · exact fun v w1 w2 hb h => Pts.below h hb
            · exact fun v w1 w2 _ h => h
            · rintro v w1 w2 hb ⟨B, e, h⟩; exact ⟨B, e, Rg.stable_row hb h⟩
            · rintro v w1 w2 hb ⟨B, e, h⟩; exact ⟨B, e, Rg.stable_row hb h⟩
            · rintro v w1 w2 hb ⟨B, e, h⟩; exact ⟨B, e, Rg.stable_row hb h⟩
          · refine List.forall_mem_cons.2 ⟨?_, List.forall_mem_cons.2 ⟨?_, List.forall_mem_cons.2 ⟨?_, List.forall_mem_cons.2 ⟨?_, List.forall_mem_cons.2 ⟨?_, List.forall_mem_cons.2 ⟨?_, List.forall_mem_cons.2 ⟨?_, List.forall_mem_cons.2 ⟨?_, List.forall_mem_cons.2 ⟨?_, List.forall_mem_cons.2 ⟨?_, List.forall_mem_cons.2 ⟨?_, fun r hr => (by cases hr)⟩⟩⟩⟩⟩⟩⟩⟩⟩⟩⟩
            · intro us wx hbx hdep K hK
              have hbw := bD.trans (hbx.mono bD.size)
              refine Rg.exec_append _ rfl Try.underlying24 hi hz0 hz1 hz2 rfl (by simp [go_sem, Rg.puts]; exact hca.below hbw) (by omega) (fun v' w' h1 h2 => hK _ _ _ rfl (Own.sl h1) h2 (fun h => (by cases h)))
            · intro us wx hbx hdep K hK
              have hq : Sl wx (us 4) A1 := (List.forall_mem_cons.1 hdep).1 (by simp)
              obtain ⟨ao', cap', e', -, -, -⟩ := id hq
              exact Rg.exec_value (v := .slice (some ⟨wx.heap.size, 0, none⟩) 1 1) (w' := wx.alloc (.cells #[us 4] 24)) (by simp [go_sem, execOp, Rg.puts, e']) (hK _ _ _ rfl (pts_one (row?_alloc_at _ _ _ _ rfl) (hq.below ((Below.refl _ _).alloc (Nat.le_refl _) _))) ((Below.refl _ _).alloc (Nat.le_refl _) _) (fun h => (by cases h)))
            · intro us wx hbx hdep K hK
              have hq : Pts wx (us 5) [A1] := (List.forall_mem_cons.1 (List.forall_mem_cons.1 hdep).2).1 (by simp)
              refine Rg.exec_call (args := #[.agg (bvs h), us 5]) (by simp [go_sem, execOp, Rg.puts]) (hash_any h hh [A1] (by simp) _ _ hq) ?_
              rintro e wy ⟨rfl, hy⟩
              exact ⟨_, rfl, hK _ _ _ rfl rfl hy (fun h => (by cases h))⟩
            · intro us wx hbx hdep K hK
              have hbw := bD.trans (hbx.mono bD.size)
              refine Rg.exec_append _ rfl Try.underlying24 hi hz0 hz1 hz2 rfl (by simp [go_sem, Rg.puts]; exact hcb.below hbw) (by omega) (fun v' w' h1 h2 => hK _ _ _ rfl (Own.sl h1) h2 (fun h => (by cases h)))
            · intro us wx hbx hdep K hK
              have hq : Sl wx (us 11) B1 := (List.forall_mem_cons.1 (List.forall_mem_cons.1 (List.forall_mem_cons.1 (List.forall_mem_cons.1 hdep).2).2).2).1 (by simp)
              obtain ⟨ao', cap', e', -, -, -⟩ := id hq
              exact Rg.exec_value (v := .slice (some ⟨wx.heap.size, 0, none⟩) 1 1) (w' := wx.alloc (.cells #[us 11] 24)) (by simp [go_sem, execOp, Rg.puts, e']) (hK _ _ _ rfl (pts_one (row?_alloc_at _ _ _ _ rfl) (hq.below ((Below.refl _ _).alloc (Nat.le_refl _) _))) ((Below.refl _ _).alloc (Nat.le_refl _) _) (fun h => (by cases h)))
            · intro us wx hbx hdep K hK
              have hq : Pts wx (us 12) [B1] := (List.forall_mem_cons.1 (List.forall_mem_cons.1 (List.forall_mem_cons.1 (List.forall_mem_cons.1 (List.forall_mem_cons.1 hdep).2).2).2).2).1 (by simp)
              refine Rg.exec_call (args := #[.agg (bvs h), us 12]) (by simp [go_sem, execOp, Rg.puts]) (hash_any h hh [B1] (by simp) _ _ hq) ?_
              rintro e wy ⟨rfl, hy⟩
              exact ⟨_, rfl, hK _ _ _ rfl rfl hy (fun h => (by cases h))⟩
            · intro us wx hbx hdep K hK
              have hq := sC2.below hbx
              obtain ⟨ao', cap', e', -, -, -⟩ := id hq
              exact Rg.exec_value (v := .slice (some ⟨wx.heap.size, 0, none⟩) 1 1) (w' := wx.alloc (.cells #[.slice (some ⟨w.heap.size + 1 + 1 + 1, 0, none⟩) (a.length) (a.length)] 24)) (by simp [go_sem, execOp, Rg.puts, e']) (hK _ _ _ rfl (pts_one (row?_alloc_at _ _ _ _ rfl) (hq.below ((Below.refl _ _).alloc (Nat.le_refl _) _))) ((Below.refl _ _).alloc (Nat.le_refl _) _) (fun h => (by cases h)))
            · intro us wx hbx hdep K hK
              have hq : Pts wx (us 16) [C] := (List.forall_mem_cons.1 (List.forall_mem_cons.1 (List.forall_mem_cons.1 (List.forall_mem_cons.1 (List.forall_mem_cons.1 (List.forall_mem_cons.1 (List.forall_mem_cons.1 hdep).2).2).2).2).2).2).1 (by simp)
              refine Rg.exec_call (args := #[.agg (bvs h), us 16]) (by simp [go_sem, execOp, Rg.puts]) (hash_any h hh [C] (by simp) _ _ hq) ?_
              rintro e wy ⟨rfl, hy⟩
              exact ⟨_, rfl, hK _ _ _ rfl rfl hy (fun h => (by cases h))⟩
            · intro us wx hbx hdep K hK
              exact Rg.exec_value (by simp [go_sem, execOp, Rg.puts]; rfl) (hK _ _ _ rfl ⟨_, rfl, row?_alloc_at _ _ _ _ rfl⟩ ((Below.refl _ _).alloc (Nat.le_refl _) _) (fun _ => ⟨Nat.le_refl _, by simp [Rg.vblk]⟩))
            · intro us wx hbx hdep K hK
              exact Rg.exec_value (by simp [go_sem, execOp, Rg.puts]; rfl) (hK _ _ _ rfl ⟨_, rfl, row?_alloc_at _ _ _ _ rfl⟩ ((Below.refl _ _).alloc (Nat.le_refl _) _) (fun _ => ⟨Nat.le_refl _, by simp [Rg.vblk]⟩))
            · intro us wx hbx hdep K hK
              exact Rg.exec_value (by simp [go_sem, execOp, Rg.puts]; rfl) (hK _ _ _ rfl ⟨_, rfl, row?_alloc_at _ _ _ _ rfl⟩ ((Below.refl _ _).alloc (Nat.le_refl _) _) (fun _ => ⟨Nat.le_refl _, by simp [Rg.vblk]⟩))
          · intro us wZ hbZ hJ hfr hne
            have ne1 : Rg.vblk (us 18) ≠ Rg.vblk (us 19) := hne _ (List.getElem_mem (n := 8) (by simp)) _ (List.getElem_mem (n := 9) (by simp)) (by simp) rfl rfl
            have ne2 : Rg.vblk (us 18) ≠ Rg.vblk (us 20) := hne _ (List.getElem_mem (n := 8) (by simp)) _ (List.getElem_mem (n := 10) (by simp)) (by simp) rfl rfl
            have ne3 : Rg.vblk (us 19) ≠ Rg.vblk (us 20) := hne _ (List.getElem_mem (n := 9) (by simp)) _ (List.getElem_mem (n := 10) (by simp)) (by simp) rfl rfl
            have fr1 : wr.drew.heap.size ≤ Rg.vblk (us 18) := (hfr _ (List.getElem_mem (n := 8) (by simp)) rfl).1
            have fr2 : wr.drew.heap.size ≤ Rg.vblk (us 19) := (hfr _ (List.getElem_mem (n := 9) (by simp)) rfl).1
            have fr3 : wr.drew.heap.size ≤ Rg.vblk (us 20) := (hfr _ (List.getElem_mem (n := 10) (by simp)) rfl).1
            simp only [List.forall_mem_cons] at hJ
            obtain ⟨-, -, e6, -, -, e13, -, e17, ⟨BP, e18, rP⟩, ⟨BQ, e19, rQ⟩, ⟨BR, e20, rR⟩, -⟩ := hJ
            simp only [e18, e19, e20, Rg.vblk] at ne1 ne2 ne3 fr1 fr2 fr3
            simp at fr1 fr2 fr3
            have y0 := Rg.stable_row hbZ d0
            have y1 := Rg.stable_row hbZ d1
            have y2 := Rg.stable_row hbZ d2
            have zb : Below w.heap.size w wZ := bD.trans (hbZ.mono bD.size)
            simp only [Rg.puts, List.map_cons, List.map_nil, List.getD_cons_zero, List.getD_cons_succ]
            simp only [e6, e13, e17, e18, e19, e20]
            have hPl := hash_length h [A1]
            have hQl := hash_length h [B1]
            have hRl := hash_length h [C]
            generalize Gcm.hash h [A1] = PP at *
            generalize Gcm.hash h [B1] = QQ at *
            generalize Gcm.hash h [C] = RR at *
            have hRR := Lib.hid hlin
            clear hlin
            have qP := row?_lt rP
            have qQ := row?_lt rQ
            have qR := row?_lt rR
            have rQ2 : row? (wZ.setRow BP (bvs PP)) BQ = some (bvs (zeros 16)) := by rw [row?_setRow_ne _ _ _ _ (by omega)]; exact rQ
            have rR2 : row? ((wZ.setRow BP (bvs PP)).setRow BQ (bvs QQ)) BR = some (bvs (zeros 16)) := by rw [row?_setRow_ne _ _ _ _ (by omega), row?_setRow_ne _ _ _ _ (by omega)]; exact rR
            have EP := Lib.hid (show row? (((wZ.setRow BP (bvs PP)).setRow BQ (bvs QQ)).setRow BR (bvs RR)) BP = some (bvs PP) by rw [row?_setRow_ne _ _ _ _ (by omega), row?_setRow_ne _ _ _ _ (by omega)]; exact row?_setRow_eq rP)
            have EQ := Lib.hid (show row? (((wZ.setRow BP (bvs PP)).setRow BQ (bvs QQ)).setRow BR (bvs RR)) BQ = some (bvs QQ) by rw [row?_setRow_ne _ _ _ _ (by omega)]; exact row?_setRow_eq rQ2)
            have ER := Lib.hid (show row? (((wZ.setRow BP (bvs PP)).setRow BQ (bvs QQ)).setRow BR (bvs RR)) BR = some (bvs RR) from row?_setRow_eq rR2)
            have E0 := Lib.hid (show row? (((wZ.setRow BP (bvs PP)).setRow BQ (bvs QQ)).setRow BR (bvs RR)) (w.heap.size + 0) = some (bvs h) by rw [row?_setRow_ne _ _ _ _ (by omega), row?_setRow_ne _ _ _ _ (by omega), row?_setRow_ne _ _ _ _ (by omega)]; exact y0)
            have E1 := Lib.hid (show row? (((wZ.setRow BP (bvs PP)).setRow BQ (bvs QQ)).setRow BR (bvs RR)) (w.heap.size + 1) = some (bvs x) by rw [row?_setRow_ne _ _ _ _ (by omega), row?_setRow_ne _ _ _ _ (by omega), row?_setRow_ne _ _ _ _ (by omega)]; exact y1)
            have E2 := Lib.hid (show row? (((wZ.setRow BP (bvs PP)).setRow BQ (bvs QQ)).setRow BR (bvs RR)) (w.heap.size + 2) = some (bvs y) by rw [row?_setRow_ne _ _ _ _ (by omega), row?_setRow_ne _ _ _ _ (by omega), row?_setRow_ne _ _ _ _ (by omega)]; exact y2)
            have EB := Lib.hid (below_setRow (below_setRow (below_setRow zb (by omega : w.heap.size ≤ BP) (bvs PP)) (by omega : w.heap.size ≤ BQ) (bvs QQ)) (by omega : w.heap.size ≤ BR) (bvs RR))
            have hsz : (((wZ.setRow BP (bvs PP)).setRow BQ (bvs QQ)).setRow BR (bvs RR)).heap.size = wZ.heap.size := by simp
            clear y0 y1 y2 hne hfr e6 e13 e17 e18 e19 e20 d0 d1 d2 r0 r1 r2 hcutA hcutB
            go_wp2_with (first
              | ((with_reducible refine Rg.plan_pure ?_ ?_ ?_); kernel_rfl; kernel_rfl; intro _ _)
              | ((with_reducible refine Rg.plan_take ?_ ?_ ?_); kernel_rfl; kernel_rfl; intro _ _)
              | ((with_reducible refine Rg.plan_keep ?_ ?_); kernel_rfl; intro K hK)
              | (refine hK _ _ (Rg.Keep.refl _) ?_; clear hK)
              | (refine hK _ _ (Rg.Keep.of_below (by assumption)) ?_; clear hK)
              | ((with_reducible refine Rg.plan_skip ?_ ?_); kernel_rfl)
              | (with_reducible refine Rg.plan_done ?_)
              | (with_reducible refine Rg.calm_normal ?_))
            clear rP rQ rR rQ2 rR2
            generalize (((wZ.setRow BP (bvs PP)).setRow BQ (bvs QQ)).setRow BR (bvs RR)) = wT at *
            have q0 := row?_lt E0.out
            have q1 := row?_lt E1.out
            have q2 := row?_lt E2.out
            have qP2 := row?_lt EP.out
            have qQ2 := row?_lt EQ.out
            have qR2 := row?_lt ER.out
            have s0 : row? ((wT.alloc (.cells (bvs (zeros 16)) 22)).alloc (.cells (bvs (zeros 16)) 22)).drew (w.heap.size) = some (bvs (h)) := by rw [row?_drew, row?_alloc_past _ _ _ (by simp; omega), row?_alloc_past _ _ _ (by omega)]; exact E0.out
            have s1 : row? ((wT.alloc (.cells (bvs (zeros 16)) 22)).alloc (.cells (bvs (zeros 16)) 22)).drew (w.heap.size + 1) = some (bvs (x)) := by rw [row?_drew, row?_alloc_past _ _ _ (by simp; omega), row?_alloc_past _ _ _ (by omega)]; exact E1.out
            have s2 : row? ((wT.alloc (.cells (bvs (zeros 16)) 22)).alloc (.cells (bvs (zeros 16)) 22)).drew (w.heap.size + 2) = some (bvs (y)) := by rw [row?_drew, row?_alloc_past _ _ _ (by simp; omega), row?_alloc_past _ _ _ (by omega)]; exact E2.out
            have s3 : row? ((wT.alloc (.cells (bvs (zeros 16)) 22)).alloc (.cells (bvs (zeros 16)) 22)).drew (BP) = some (bvs (PP)) := by rw [row?_drew, row?_alloc_past _ _ _ (by simp; omega), row?_alloc_past _ _ _ (by omega)]; exact EP.out
            have s4 : row? ((wT.alloc (.cells (bvs (zeros 16)) 22)).alloc (.cells (bvs (zeros 16)) 22)).drew (BQ) = some (bvs (QQ)) := by rw [row?_drew, row?_alloc_past _ _ _ (by simp; omega), row?_alloc_past _ _ _ (by omega)]; exact EQ.out
            have s5 : row? ((wT.alloc (.cells (bvs (zeros 16)) 22)).alloc (.cells (bvs (zeros 16)) 22)).drew (BR) = some (bvs (RR)) := by rw [row?_drew, row?_alloc_past _ _ _ (by simp; omega), row?_alloc_past _ _ _ (by omega)]; exact ER.out
            have s6 : row? ((wT.alloc (.cells (bvs (zeros 16)) 22)).alloc (.cells (bvs (zeros 16)) 22)).drew wT.heap.size = some (bvs (zeros 16)) := by rw [row?_drew, row?_alloc_past _ _ _ (by simp)]; exact row?_alloc_at _ _ _ _ rfl
            have s7 : row? ((wT.alloc (.cells (bvs (zeros 16)) 22)).alloc (.cells (bvs (zeros 16)) 22)).drew (wT.heap.size + 1) = some (bvs (zeros 16)) := by rw [row?_drew]; exact row?_alloc_at _ _ _ _ (by simp)
            have sB : Below w.heap.size w ((wT.alloc (.cells (bvs (zeros 16)) 22)).alloc (.cells (bvs (zeros 16)) 22)).drew := ((EB.out.alloc (by omega) _).alloc (by simp; omega) _).drew
            have hsz2 : ((wT.alloc (.cells (bvs (zeros 16)) 22)).alloc (.cells (bvs (zeros 16)) 22)).drew.heap.size = wT.heap.size + 2 := by simp
            clear E0 E1 E2 EP EQ ER EB
            rw [hsz] at s6 s7
            have t3 := Lib.hid s3
            have t4 := Lib.hid s4
            have t5 := Lib.hid s5
            have t6 := Lib.hid s6
            have t7 := Lib.hid s7
            clear s3 s4 s5 s6 s7
            have CX : ∀ W, Calls Try.prog 18 #[.agg (bvs x), .agg (bvs h)] W fun e w' => e = .returned (.agg (bvs (Gcm.times x h))) ∧ Below W.heap.size W w' := fun W => ptimes_any x h hx hh W
            have CY : ∀ W, Calls Try.prog 18 #[.agg (bvs y), .agg (bvs h)] W fun e w' => e = .returned (.agg (bvs (Gcm.times y h))) ∧ Below W.heap.size W w' := fun W => ptimes_any y h hy hh W
            have HPT : ∀ W, Calls Try.prog 18 #[.agg (bvs (add x y)), .agg (bvs h)] W fun e w' => e = .returned (.agg (bvs (add (Gcm.times x h) (Gcm.times y h)))) ∧ Below W.heap.size W w' := fun W => by
              rw [← times_addL]; exact ptimes_any (add x y) h (add_length _ _) hh W
            have HPU : ∀ W, Calls Try.prog 18 #[.agg (bvs h), .agg (bvs (add x y))] W fun e w' => e = .returned (.agg (bvs (add (Gcm.times x h) (Gcm.times y h)))) ∧ Below W.heap.size W w' := fun W => by
              rw [← times_addL, times_comm]; exact ptimes_any h (add x y) hh (add_length _ _) W
            have hUl := times_length x h
            have hVl := times_length y h
            generalize Gcm.times x h = U at *
            generalize Gcm.times y h = V at *
            generalize hXY : add x y = XY at HPT HPU
            generalize hUV : add U V = UV at HPT HPU
            have GX := Lib.hid CX
            have GY := Lib.hid CY
            have GPT := Lib.hid HPT
            have GPU := Lib.hid HPU
            have GXY := Lib.hid hXY
            have GUV := Lib.hid hUV
            clear CX CY HPT HPU hXY hUV
            refine Rg.wp_region_flo [(0, 0), (1, 0), (3, 0), (4, 0)] [
                ⟨2, 69, [], false, fun v _ => v = .agg (bvs U)⟩,
                ⟨5, 72, [2], false, fun v _ => v = .agg (bvs V)⟩,
                ⟨6, 19, [], true, fun v w' => ∃ B, v = .pointer (some ⟨B, 0, none⟩) ∧ row? w' B = some (bvs (zeros 16))⟩,
                ⟨7, 20, [], true, fun v w' => ∃ B, v = .pointer (some ⟨B, 0, none⟩) ∧ row? w' B = some (bvs (zeros 16))⟩] [(2, 69, []), (5, 72, [2]), (6, 19, []), (7, 20, [])] [8, 9] (by kernel_rfl) (by kernel_rfl) rfl ?_
            simp only [Rg.row, Rg.PT.map, List.getD_cons_zero, List.getD_cons_succ]
            generalize ((wT.alloc (.cells (bvs (zeros 16)) 22)).alloc (.cells (bvs (zeros 16)) 22)).drew = wS at *
            ((with_reducible refine Rg.plan_take ?_ ?_ ?_); kernel_rfl; kernel_rfl; intro K hK; refine exec_load16 (l := x) rfl (by kernel_rfl) s1 hx (hK _ _ ?_); clear hK K)
            ((with_reducible refine Rg.plan_take ?_ ?_ ?_); kernel_rfl; kernel_rfl; intro K hK; refine exec_load16 (l := h) rfl (by kernel_rfl) s0 hh (hK _ _ ?_); clear hK K)
            ((with_reducible refine Rg.plan_take ?_ ?_ ?_); kernel_rfl; kernel_rfl; intro K hK; refine exec_load16 (l := y) rfl (by kernel_rfl) s2 hy (hK _ _ ?_); clear hK K)
            ((with_reducible refine Rg.plan_take ?_ ?_ ?_); kernel_rfl; kernel_rfl; intro K hK; refine exec_load16 (l := h) rfl (by kernel_rfl) s0 hh (hK _ _ ?_); clear hK K)
            with_reducible refine Rg.plan_done ?_
            refine Rg.phase_done (Rg.Phase.mk ?_ ?_ ?_)
            · refine List.forall_mem_cons.2 ⟨?_, List.forall_mem_cons.2 ⟨?_, List.forall_mem_cons.2 ⟨?_, List.forall_mem_cons.2 ⟨?_, fun r hr => (by cases hr)⟩⟩⟩⟩
              · exact fun v w1 w2 _ h => h
              · exact fun v w1 w2 _ h => h
              · rintro v w1 w2 hb ⟨B, e, h⟩; exact ⟨B, e, Rg.stable_row hb h⟩
              · rintro v w1 w2 hb ⟨B, e, h⟩; exact ⟨B, e, Rg.stable_row hb h⟩
            · refine List.forall_mem_cons.2 ⟨?_, List.forall_mem_cons.2 ⟨?_, List.forall_mem_cons.2 ⟨?_, List.forall_mem_cons.2 ⟨?_, fun r hr => (by cases hr)⟩⟩⟩⟩
              · intro us wx hbx hdep K hK
                refine Rg.exec_call (args := #[.agg (bvs x), .agg (bvs h)]) (by simp [go_sem, execOp, Rg.puts]) (GX.out _) ?_
                rintro e wy ⟨rfl, hy⟩
                exact ⟨_, rfl, hK _ _ _ rfl rfl hy (fun h => (by cases h))⟩
              · intro us wx hbx hdep K hK
                refine Rg.exec_call (args := #[.agg (bvs y), .agg (bvs h)]) (by simp [go_sem, execOp, Rg.puts]) (GY.out _) ?_
                rintro e wy ⟨rfl, hy⟩
                exact ⟨_, rfl, hK _ _ _ rfl rfl hy (fun h => (by cases h))⟩
              · intro us wx hbx hdep K hK
                exact Rg.exec_value (by simp [go_sem, execOp, Rg.puts]; rfl) (hK _ _ _ rfl ⟨_, rfl, row?_alloc_at _ _ _ _ rfl⟩ ((Below.refl _ _).alloc (Nat.le_refl _) _) (fun _ => ⟨Nat.le_refl _, by simp [Rg.vblk]⟩))
              · intro us wx hbx hdep K hK
                exact Rg.exec_value (by simp [go_sem, execOp, Rg.puts]; rfl) (hK _ _ _ rfl ⟨_, rfl, row?_alloc_at _ _ _ _ rfl⟩ ((Below.refl _ _).alloc (Nat.le_refl _) _) (fun _ => ⟨Nat.le_refl _, by simp [Rg.vblk]⟩))
            · intro us2 wY hbY hJ hfr hne
              have ne4 : Rg.vblk (us2 6) ≠ Rg.vblk (us2 7) := hne _ (List.getElem_mem (n := 2) (by simp)) _ (List.getElem_mem (n := 3) (by simp)) (by simp) rfl rfl
              have fr4 : wS.heap.size ≤ Rg.vblk (us2 6) := (hfr _ (List.getElem_mem (n := 2) (by simp)) rfl).1
              have fr5 : wS.heap.size ≤ Rg.vblk (us2 7) := (hfr _ (List.getElem_mem (n := 3) (by simp)) rfl).1
              simp only [List.forall_mem_cons] at hJ
              obtain ⟨e2, e5, ⟨BU, e6, rU⟩, ⟨BV, e7, rV⟩, -⟩ := hJ
              simp only [e6, e7, Rg.vblk] at ne4 fr4 fr5
              try simp at fr4 fr5
              have zb2 : Below w.heap.size w wY := sB.trans (hbY.mono sB.size)
              simp only [Rg.puts, List.map_cons, List.map_nil, List.getD_cons_zero, List.getD_cons_succ]
              simp only [e2, e5, e6, e7]
              have rV2 : row? (wY.setRow BU (bvs U)) BV = some (bvs (zeros 16)) := by rw [row?_setRow_ne _ _ _ _ (fun e => ne4 e.symm)]; exact rV
              have EU := Lib.hid (show row? ((wY.setRow BU (bvs U)).setRow BV (bvs V)) BU = some (bvs U) by rw [row?_setRow_ne _ _ _ _ ne4]; exact row?_setRow_eq rU)
              have EV := Lib.hid (row?_setRow_eq rV2 (c' := bvs V))
              have E0 := Lib.hid (show row? ((wY.setRow BU (bvs U)).setRow BV (bvs V)) (w.heap.size) = some (bvs (h)) by rw [row?_setRow_ne _ _ _ _ (by omega), row?_setRow_ne _ _ _ _ (by omega)]; exact Rg.stable_row hbY s0)
              have E1 := Lib.hid (show row? ((wY.setRow BU (bvs U)).setRow BV (bvs V)) (w.heap.size + 1) = some (bvs (x)) by rw [row?_setRow_ne _ _ _ _ (by omega), row?_setRow_ne _ _ _ _ (by omega)]; exact Rg.stable_row hbY s1)
              have E2 := Lib.hid (show row? ((wY.setRow BU (bvs U)).setRow BV (bvs V)) (w.heap.size + 2) = some (bvs (y)) by rw [row?_setRow_ne _ _ _ _ (by omega), row?_setRow_ne _ _ _ _ (by omega)]; exact Rg.stable_row hbY s2)
              have E3 := Lib.hid (show row? ((wY.setRow BU (bvs U)).setRow BV (bvs V)) (BP) = some (bvs (PP)) by rw [row?_setRow_ne _ _ _ _ (by omega), row?_setRow_ne _ _ _ _ (by omega)]; exact Rg.stable_row hbY t3.out)
              have E4 := Lib.hid (show row? ((wY.setRow BU (bvs U)).setRow BV (bvs V)) (BQ) = some (bvs (QQ)) by rw [row?_setRow_ne _ _ _ _ (by omega), row?_setRow_ne _ _ _ _ (by omega)]; exact Rg.stable_row hbY t4.out)
              have E5 := Lib.hid (show row? ((wY.setRow BU (bvs U)).setRow BV (bvs V)) (BR) = some (bvs (RR)) by rw [row?_setRow_ne _ _ _ _ (by omega), row?_setRow_ne _ _ _ _ (by omega)]; exact Rg.stable_row hbY t5.out)
              have E6 := Lib.hid (show row? ((wY.setRow BU (bvs U)).setRow BV (bvs V)) (wZ.heap.size) = some (bvs (zeros 16)) by rw [row?_setRow_ne _ _ _ _ (by omega), row?_setRow_ne _ _ _ _ (by omega)]; exact Rg.stable_row hbY t6.out)
              have E7 := Lib.hid (show row? ((wY.setRow BU (bvs U)).setRow BV (bvs V)) (wZ.heap.size + 1) = some (bvs (zeros 16)) by rw [row?_setRow_ne _ _ _ _ (by omega), row?_setRow_ne _ _ _ _ (by omega)]; exact Rg.stable_row hbY t7.out)
              have EB := below_setRow (below_setRow zb2 (by omega : w.heap.size ≤ BU) (bvs U)) (by omega : w.heap.size ≤ BV) (bvs V)
              clear hne hfr e2 e5 e6 e7 s0 s1 s2 t3 t4 t5 t6 t7 hbY
              go_wp2_with (first
                | ((with_reducible refine Rg.plan_pure ?_ ?_ ?_); kernel_rfl; kernel_rfl; intro _ _)
                | ((with_reducible refine Rg.plan_take ?_ ?_ ?_); kernel_rfl; kernel_rfl; intro _ _)
                | ((with_reducible refine Rg.plan_keep ?_ ?_); kernel_rfl; intro K hK)
                | (refine hK _ _ (Rg.Keep.refl _) ?_; clear hK)
                | (refine hK _ _ (Rg.Keep.of_below (by assumption)) ?_; clear hK)
                | ((with_reducible refine Rg.plan_skip ?_ ?_); kernel_rfl)
                | (with_reducible refine Rg.plan_done ?_)
                | (with_reducible refine Rg.calm_normal ?_))
              clear rU rV rV2
              go_loopw [21] (fun v wr => ∃ k : Nat, k ≤ 16 ∧ v = .int .i64 k ∧ row? wr w.heap.size = some (bvs h) ∧ row? wr (w.heap.size + 1) = some (bvs x) ∧ row? wr (w.heap.size + 2) = some (bvs y) ∧ row? wr BP = some (bvs PP) ∧ row? wr BQ = some (bvs QQ) ∧ row? wr BR = some (bvs RR)
                  ∧ row? wr wZ.heap.size = some (bvs (upto (addF PP QQ) (zeros 16) 16 k)) ∧ row? wr (wZ.heap.size + 1) = some (bvs (upto (addF x y) (zeros 16) 16 k)) ∧ row? wr BU = some (bvs (upto (addF U V) U 16 k)) ∧ row? wr BV = some (bvs V) ∧ Below w.heap.size w wr) (fun v _ => 16 - (intOf v).toNat)
              case atStart => exact ⟨0, by omega, rfl, E0.out, E1.out, E2.out, E3.out, E4.out, E5.out, by rw [upto_zero _ _ _ (zeros_length _)]; exact E6.out, by rw [upto_zero _ _ _ (zeros_length _)]; exact E7.out, by rw [upto_zero _ _ _ hUl]; exact EU.out, EV.out, EB⟩
              case round =>
                obtain ⟨k, hk, rfl, r0, r1, r2, r3, r4, r5, r6, r7, rU, rV, hb⟩ := hrel
                clear E0 E1 E2 E3 E4 E5 E6 E7 EU EV
                by_cases hlt : k < 16
                · have G1 := Lib.hid (upto_set (addF PP QQ) (zeros 16) 16 k hlt)
                  have G2 := Lib.hid (upto_set (addF x y) (zeros 16) 16 k hlt)
                  have G3 := Lib.hid (upto_set (addF U V) U 16 k hlt)
                  have gU := upto_hi (f := addF U V) (z := U) hlt (Nat.le_refl k)
                  have F0 := Lib.hid r0
                  have F1 := Lib.hid r1
                  have F2 := Lib.hid r2
                  have F3 := Lib.hid r3
                  have F4 := Lib.hid r4
                  have F5 := Lib.hid r5
                  have F6 := Lib.hid r6
                  have F7 := Lib.hid r7
                  have FU := Lib.hid rU
                  have FV := Lib.hid rV
                  have c1 := row?_cell r1
                  have c2 := row?_cell r2
                  have c3 := row?_cell r3
                  have c4 := row?_cell r4
                  have c6 := row?_cell r6
                  have c7 := row?_cell r7
                  have cU := row?_cell rU
                  have cV := row?_cell rV
                  have f6 := row?_frozen r6
                  have f7 := row?_frozen r7
                  have fU := row?_frozen rU
                  have n1 : BU ≠ wZ.heap.size := by omega
                  have n2 : BU ≠ wZ.heap.size + 1 := by omega
                  have n3 : BV ≠ wZ.heap.size := by omega
                  have n4 : BV ≠ wZ.heap.size + 1 := by omega
                  clear r0 r1 r2 r3 r4 r5 r6 r7 rU rV
                  go_wp2_with fail
                  go_region
                  all_goals (go_wp2_with fail)
                  refine Rg.wp_region_plan (Rg.row [(0, 3), (1, 3), (2, 3), (3, 0), (4, 3), (5, 3), (6, 0), (7, 3), (8, 3)] [9]) [9] (by kernel_rfl) (by kernel_rfl) ?_
                  simp only [Rg.row, Rg.PT.map, List.map_cons, List.map_nil, List.getD_cons_zero, List.getD_cons_succ]
                  go_wp2_with (first
                    | ((with_reducible refine Rg.plan_pure ?_ ?_ ?_); kernel_rfl; kernel_rfl; intro _ _)
                    | ((with_reducible refine Rg.plan_take ?_ ?_ ?_); kernel_rfl; kernel_rfl; intro _ _)
                    | ((with_reducible refine Rg.plan_keep ?_ ?_); kernel_rfl; intro K hK)
                    | (refine hK _ _ (Rg.Keep.refl _) ?_; clear hK)
                    | (refine hK _ _ (Rg.Keep.of_below (by assumption)) ?_; clear hK)
                    | ((with_reducible refine Rg.plan_skip ?_ ?_); kernel_rfl)
                    | (with_reducible refine Rg.plan_done ?_)
                    | (with_reducible refine Rg.calm_normal ?_))
                  go_roundw
                  case rel =>
                    refine ⟨k + 1, by omega, by go_num, ?_, ?_, ?_, ?_, ?_, ?_, ?_, ?_, ?_, ?_, ((((hb.setCell (by simp <;> omega) _).setCell (by simp <;> omega) _).setCell (by simp <;> omega) _).drew).drew⟩
                    · rw [row?_drew, row?_drew, row?_setCell_ne _ _ _ _ (by simp <;> omega), row?_setCell_ne _ _ _ _ (by simp <;> omega), row?_setCell_ne _ _ _ _ (by simp <;> omega)]; exact F0.out
                    · rw [row?_drew, row?_drew, row?_setCell_ne _ _ _ _ (by simp <;> omega), row?_setCell_ne _ _ _ _ (by simp <;> omega), row?_setCell_ne _ _ _ _ (by simp <;> omega)]; exact F1.out
                    · rw [row?_drew, row?_drew, row?_setCell_ne _ _ _ _ (by simp <;> omega), row?_setCell_ne _ _ _ _ (by simp <;> omega), row?_setCell_ne _ _ _ _ (by simp <;> omega)]; exact F2.out
                    · rw [row?_drew, row?_drew, row?_setCell_ne _ _ _ _ (by simp <;> omega), row?_setCell_ne _ _ _ _ (by simp <;> omega), row?_setCell_ne _ _ _ _ (by simp <;> omega)]; exact F3.out
                    · rw [row?_drew, row?_drew, row?_setCell_ne _ _ _ _ (by simp <;> omega), row?_setCell_ne _ _ _ _ (by simp <;> omega), row?_setCell_ne _ _ _ _ (by simp <;> omega)]; exact F4.out
                    · rw [row?_drew, row?_drew, row?_setCell_ne _ _ _ _ (by simp <;> omega), row?_setCell_ne _ _ _ _ (by simp <;> omega), row?_setCell_ne _ _ _ _ (by simp <;> omega)]; exact F5.out
                    · rw [row?_drew, row?_drew, row?_setCell_ne _ _ _ _ (by simp <;> omega), row?_setCell_ne _ _ _ _ (by simp <;> omega), row?_setCell_eq F6.out, bvs_setn]; exact congrArg (fun l => some (bvs l)) G1.out
                    · rw [row?_drew, row?_drew, row?_setCell_ne _ _ _ _ (by simp <;> omega), row?_setCell_eq (by rw [row?_setCell_ne _ _ _ _ (by simp <;> omega)]; exact F7.out), bvs_setn]; exact congrArg (fun l => some (bvs l)) G2.out
                    · rw [row?_drew, row?_drew, row?_setCell_eq (by rw [row?_setCell_ne _ _ _ _ (by simp <;> omega), row?_setCell_ne _ _ _ _ (by simp <;> omega)]; exact FU.out), bvs_setn]; exact congrArg (fun l => some (bvs l)) G3.out
                    · rw [row?_drew, row?_drew, row?_setCell_ne _ _ _ _ (by simp <;> omega), row?_setCell_ne _ _ _ _ (by simp <;> omega), row?_setCell_ne _ _ _ _ (by simp <;> omega)]; exact FV.out
                  case measure => simp [intOf]; omega
                · obtain rfl : k = 16 := by omega
                  rw [upto_full] at r6 r7 rU
                  have e6 : (List.range 16).map (addF PP QQ) = RR := hRR.out.symm
                  have e7 : (List.range 16).map (addF x y) = XY := GXY.out
                  have eU : (List.range 16).map (addF U V) = UV := GUV.out
                  rw [e6] at r6
                  rw [e7] at r7
                  rw [eU] at rU
                  have l1 : RR.length = 16 := hRl
                  have l2 : XY.length = 16 := by rw [← GXY.out]; exact add_length _ _
                  have l3 : UV.length = 16 := by rw [← GUV.out]; exact add_length _ _
                  have zr := hb.size
                  have q6 := row?_lt r6
                  have q7 := row?_lt r7
                  have q5 := row?_lt r5
                  have qU := row?_lt rU
                  clear e6 e7 eU r1 r2 r3 r4 rV
                  go_wp2_with fail
                  refine Rg.wp_region_plan (Rg.row [(0, 0), (1, 0), (2, 1), (3, 3), (4, 0), (5, 0), (7, 0), (6, 1), (8, 1), (9, 3), (10, 3), (11, 0), (12, 0), (14, 0), (13, 1), (15, 1), (16, 3), (17, 3), (18, 1), (19, 3), (20, 3)] []) [] (by kernel_rfl) (by kernel_rfl) ?_
                  simp only [Rg.row, Rg.PT.map, List.map_nil, List.getD_cons_zero, List.getD_cons_succ]
                  go_wp2_with (first
                    | ((with_reducible refine Rg.plan_pure ?_ ?_ ?_); kernel_rfl; kernel_rfl; intro _ _)
                    | ((with_reducible refine Rg.plan_take ?_ ?_ ?_); kernel_rfl; kernel_rfl; intro _ _)
                    | ((with_reducible refine Rg.plan_keep ?_ ?_); kernel_rfl; intro K hK)
                    | (refine hK _ _ (Rg.Keep.refl _) ?_; clear hK)
                    | (refine hK _ _ (Rg.Keep.of_below (by assumption)) ?_; clear hK)
                    | ((with_reducible refine Rg.plan_skip ?_ ?_); kernel_rfl)
                    | (with_reducible refine Rg.plan_done ?_)
                    | (with_reducible refine Rg.calm_normal ?_))
                  refine hK _ _ (Rg.Keep.refl _) ?_
                  clear hK
                  go_wp2_with (first
                    | ((with_reducible refine Rg.plan_pure ?_ ?_ ?_); kernel_rfl; kernel_rfl; intro _ _)
                    | ((with_reducible refine Rg.plan_take ?_ ?_ ?_); kernel_rfl; kernel_rfl; intro _ _)
                    | ((with_reducible refine Rg.plan_keep ?_ ?_); kernel_rfl; intro K hK)
                    | (refine hK _ _ (Rg.Keep.refl _) ?_; clear hK)
                    | (refine hK _ _ (Rg.Keep.of_below (by assumption)) ?_; clear hK)
                    | ((with_reducible refine Rg.plan_skip ?_ ?_); kernel_rfl)
                    | (with_reducible refine Rg.plan_done ?_)
                    | (with_reducible refine Rg.calm_normal ?_))
                  refine (GPT.out _).mono ?_
                  rintro e wc1 ⟨rfl, hA⟩
                  refine hK _ _ (Rg.Keep.of_below hA) ?_
                  clear hK
                  have zc1 := hA.size
                  try simp at zc1
                  have rc1_0 : row? wc1 (w.heap.size) = some (bvs (h)) := by rw [row?_below hA (by first | omega | (simp; done) | (simp; omega))]; exact r0
                  have rc1_1 : row? wc1 (BR) = some (bvs (RR)) := by rw [row?_below hA (by first | omega | (simp; done) | (simp; omega))]; exact r5
                  have rc1_2 : row? wc1 (wZ.heap.size) = some (bvs (RR)) := by rw [row?_below hA (by first | omega | (simp; done) | (simp; omega))]; exact r6
                  have rc1_3 : row? wc1 (wZ.heap.size + 1) = some (bvs (XY)) := by rw [row?_below hA (by first | omega | (simp; done) | (simp; omega))]; exact r7
                  have rc1_4 : row? wc1 (BU) = some (bvs (UV)) := by rw [row?_below hA (by first | omega | (simp; done) | (simp; omega))]; exact rU
                  have bc1 : Below w.heap.size w wc1 := hb.drew.trans (hA.mono (by first | omega | (simp; done) | (simp; omega)))
                  clear hA 
                  go_wp2_with (first
                    | ((with_reducible refine Rg.plan_pure ?_ ?_ ?_); kernel_rfl; kernel_rfl; intro _ _)
                    | ((with_reducible refine Rg.plan_take ?_ ?_ ?_); kernel_rfl; kernel_rfl; intro _ _)
                    | ((with_reducible refine Rg.plan_keep ?_ ?_); kernel_rfl; intro K hK)
                    | (refine hK _ _ (Rg.Keep.refl _) ?_; clear hK)
                    | (refine hK _ _ (Rg.Keep.of_below (by assumption)) ?_; clear hK)
                    | ((with_reducible refine Rg.plan_skip ?_ ?_); kernel_rfl)
                    | (with_reducible refine Rg.plan_done ?_)
                    | (with_reducible refine Rg.calm_normal ?_))
                  refine hK _ _ (Rg.Keep.refl _) ?_
                  clear hK
                  go_wp2_with (first
                    | ((with_reducible refine Rg.plan_pure ?_ ?_ ?_); kernel_rfl; kernel_rfl; intro _ _)
                    | ((with_reducible refine Rg.plan_take ?_ ?_ ?_); kernel_rfl; kernel_rfl; intro _ _)
                    | ((with_reducible refine Rg.plan_keep ?_ ?_); kernel_rfl; intro K hK)
                    | (refine hK _ _ (Rg.Keep.refl _) ?_; clear hK)
                    | (refine hK _ _ (Rg.Keep.of_below (by assumption)) ?_; clear hK)
                    | ((with_reducible refine Rg.plan_skip ?_ ?_); kernel_rfl)
                    | (with_reducible refine Rg.plan_done ?_)
                    | (with_reducible refine Rg.calm_normal ?_))
                  refine (GPU.out _).mono ?_
                  rintro e wc2 ⟨rfl, hA⟩
                  refine hK _ _ (Rg.Keep.of_below hA) ?_
                  clear hK
                  have zc2 := hA.size
                  try simp at zc2
                  have rc2_0 : row? wc2 (w.heap.size) = some (bvs (h)) := by rw [row?_below hA (by first | omega | (simp; done) | (simp; omega))]; exact rc1_0
                  have rc2_1 : row? wc2 (BR) = some (bvs (RR)) := by rw [row?_below hA (by first | omega | (simp; done) | (simp; omega))]; exact rc1_1
                  have rc2_2 : row? wc2 (wZ.heap.size) = some (bvs (RR)) := by rw [row?_below hA (by first | omega | (simp; done) | (simp; omega))]; exact rc1_2
                  have rc2_3 : row? wc2 (wZ.heap.size + 1) = some (bvs (XY)) := by rw [row?_below hA (by first | omega | (simp; done) | (simp; omega))]; exact rc1_3
                  have rc2_4 : row? wc2 (BU) = some (bvs (UV)) := by rw [row?_below hA (by first | omega | (simp; done) | (simp; omega))]; exact rc1_4
                  have bc2 : Below w.heap.size w wc2 := bc1.trans (hA.mono (by first | omega | (simp; done) | (simp; omega)))
                  clear hA rc1_0 rc1_1 rc1_2 rc1_3 rc1_4
                  go_wp2_with (first
                    | ((with_reducible refine Rg.plan_pure ?_ ?_ ?_); kernel_rfl; kernel_rfl; intro _ _)
                    | ((with_reducible refine Rg.plan_take ?_ ?_ ?_); kernel_rfl; kernel_rfl; intro _ _)
                    | ((with_reducible refine Rg.plan_keep ?_ ?_); kernel_rfl; intro K hK)
                    | (refine hK _ _ (Rg.Keep.refl _) ?_; clear hK)
                    | (refine hK _ _ (Rg.Keep.of_below (by assumption)) ?_; clear hK)
                    | ((with_reducible refine Rg.plan_skip ?_ ?_); kernel_rfl)
                    | (with_reducible refine Rg.plan_done ?_)
                    | (with_reducible refine Rg.calm_normal ?_))
                  refine hK _ _ (Rg.Keep.refl _) ?_
                  clear hK
                  go_wp2_with (first
                    | ((with_reducible refine Rg.plan_pure ?_ ?_ ?_); kernel_rfl; kernel_rfl; intro _ _)
                    | ((with_reducible refine Rg.plan_take ?_ ?_ ?_); kernel_rfl; kernel_rfl; intro _ _)
                    | ((with_reducible refine Rg.plan_keep ?_ ?_); kernel_rfl; intro K hK)
                    | (refine hK _ _ (Rg.Keep.refl _) ?_; clear hK)
                    | (refine hK _ _ (Rg.Keep.of_below (by assumption)) ?_; clear hK)
                    | ((with_reducible refine Rg.plan_skip ?_ ?_); kernel_rfl)
                    | (with_reducible refine Rg.plan_done ?_)
                    | (with_reducible refine Rg.calm_normal ?_))
                  refine (awake_any _).mono ?_
                  rintro e wc3 ⟨rfl, hA⟩
                  refine hK _ _ (Rg.Keep.of_below hA) ?_
                  clear hK
                  have zc3 := hA.size
                  try simp at zc3
                  have rc3_0 : row? wc3 (w.heap.size) = some (bvs (h)) := by rw [row?_below hA (by first | omega | (simp; done) | (simp; omega))]; exact rc2_0
                  have rc3_1 : row? wc3 (BR) = some (bvs (RR)) := by rw [row?_below hA (by first | omega | (simp; done) | (simp; omega))]; exact rc2_1
                  have rc3_2 : row? wc3 (wZ.heap.size) = some (bvs (RR)) := by rw [row?_below hA (by first | omega | (simp; done) | (simp; omega))]; exact rc2_2
                  have rc3_3 : row? wc3 (wZ.heap.size + 1) = some (bvs (XY)) := by rw [row?_below hA (by first | omega | (simp; done) | (simp; omega))]; exact rc2_3
                  have rc3_4 : row? wc3 (BU) = some (bvs (UV)) := by rw [row?_below hA (by first | omega | (simp; done) | (simp; omega))]; exact rc2_4
                  have bc3 : Below w.heap.size w wc3 := bc2.trans (hA.mono (by first | omega | (simp; done) | (simp; omega)))
                  clear hA rc2_0 rc2_1 rc2_2 rc2_3 rc2_4
                  go_wp2_with (first
                    | ((with_reducible refine Rg.plan_pure ?_ ?_ ?_); kernel_rfl; kernel_rfl; intro _ _)
                    | ((with_reducible refine Rg.plan_take ?_ ?_ ?_); kernel_rfl; kernel_rfl; intro _ _)
                    | ((with_reducible refine Rg.plan_keep ?_ ?_); kernel_rfl; intro K hK)
                    | (refine hK _ _ (Rg.Keep.refl _) ?_; clear hK)
                    | (refine hK _ _ (Rg.Keep.of_below (by assumption)) ?_; clear hK)
                    | ((with_reducible refine Rg.plan_skip ?_ ?_); kernel_rfl)
                    | (with_reducible refine Rg.plan_done ?_)
                    | (with_reducible refine Rg.calm_normal ?_))
                  go_ret
                  exact ⟨rfl, bc3⟩
    · skip
      go_enter Try.func8, Try.ntmps8
      go_wp2_with (go_at_call 9; refine (awake_any _).mono ?_; rintro e w' ⟨rfl, hb⟩)
      go_ret
      exact ⟨rfl, (bel3 w _ _ _).trans (hb.mono (by simp; omega))⟩
  · by_cases h1 : b.length ≤ 100
    · skip
      go_enter Try.func8, Try.ntmps8
      go_wp2_with (at_make; refine wpList_make_full _ rfl _ _ 24 rfl (w.heap.size + 3) 5 i0 (.int .u8 0) 1 Try.underlying24 hi hz0 hz1 _ _ _ _ (b.length) rfl rfl rfl rfl ?b1 ?b2 ?b3 ?_)
      case b1 => rw [hz2]; omega
      case b2 => unfold maxLen; omega
      case b3 => simp
      intro w1 hown1 hgrow1
      rw [zeros_made] at hown1
      have z1 := hgrow1.size
      simp at z1 hown1
      have z2 := (hown1.lt _ rfl).2
      have r0 : row? w1 w.heap.size = some (bvs h) := by
        rw [grown_row0 hgrow1 (by simp; omega)]; first | done | simp [go_sem]
      have r1 : row? w1 (w.heap.size + 1) = some (bvs x) := by
        rw [grown_row0 hgrow1 (by simp <;> omega)]; first | done | simp [go_sem]
      have r2 : row? w1 (w.heap.size + 2) = some (bvs y) := by
        rw [grown_row0 hgrow1 (by simp <;> omega)]; first | done | simp [go_sem] | exact row?_alloc_at _ _ _ _ (by simp)
      have b1 : Below w.heap.size w w1 := (bel3 w _ _ _).grown hgrow1 (by simp; omega) (by simp)
      have hown2 : w1.ownsRow (w.heap.size + 3) 5 1 (.slice (some ⟨w.heap.size + 1 + 1 + 1, 0, none⟩) (b.length) (b.length)) (b.length) ((upto (xorF a b) (List.replicate (b.length) 0) (b.length) 0).map bv) := by
        rw [upto_zero _ _ _ (by simp)]; simpa using hown1
      have R0 := Lib.hid r0
      have R1 := Lib.hid r1
      have R2 := Lib.hid r2
      have O1 := Lib.hid hown2
      clear hgrow1 r0 r1 r2 hown1 hown2
      go_wp2_with fail
      go_loopw [13] (fun v wr => ∃ k : Nat, k ≤ b.length ∧ v = .int .i64 k ∧ wr.ownsRow (w.heap.size + 3) 5 1 (.slice (some ⟨w.heap.size + 1 + 1 + 1, 0, none⟩) (b.length) (b.length)) (b.length) ((upto (xorF a b) (List.replicate (b.length) 0) (b.length) k).map bv)
          ∧ row? wr w.heap.size = some (bvs h) ∧ row? wr (w.heap.size + 1) = some (bvs x) ∧ row? wr (w.heap.size + 2) = some (bvs y) ∧ Below w.heap.size w wr) (fun v _ => b.length - (intOf v).toNat)
      case atStart => exact ⟨0, by omega, rfl, O1.out, R0.out, R1.out, R2.out, b1⟩
      case round =>
        obtain ⟨k, hk', rfl, hown, r0, r1, r2, hb⟩ := hrel
        by_cases hlt : k < b.length
        · obtain ⟨b1, off1, rfl, hcell1⟩ := hp (by omega)
          obtain ⟨b2, off2, rfl, hcell2⟩ := hp2 (by omega)
          have c1 := below_cell hb (hcell1 k (by omega)) (cell_lt (hcell1 k (by omega)))
          have c2 := below_cell hb (hcell2 k (by omega)) (cell_lt (hcell2 k (by omega)))
          have HC1 := Lib.hid hcell1
          have HC2 := Lib.hid hcell2
          have hlu : (upto (xorF a b) (List.replicate (b.length) 0) (b.length) k).length = b.length := upto_length ..
          have cO : wr.cell? ⟨w.heap.size + 1 + 1 + 1, k, none⟩ = some (.int .u8 (n8 (nth (upto (xorF a b) (List.replicate (b.length) 0) (b.length) k) k) : Nat)) := by
            rw [hown.cellAt k (by omega)]
            simp [nth, bv, n8, hlu, hlt]
          have fO := hown.frozenAt k
          have eU := upto_set (xorF a b) (List.replicate (b.length) 0) (b.length) k hlt
          have hst := own_stored hown k (xorF a b k)
          rw [eU] at hst
          have hst2 : (wr.setCell ⟨w.heap.size + 1 + 1 + 1, k, none⟩ (.int .u8 (n8 (nth a k ^^^ nth b k) : Nat))).ownsRow (w.heap.size + 3) 5 1 (.slice (some ⟨w.heap.size + 1 + 1 + 1, 0, none⟩) (b.length) (b.length)) (b.length) ((upto (xorF a b) (List.replicate (b.length) 0) (b.length) (k + 1)).map bv) := hst
          have HO := Lib.hid hst2
          have H0 := Lib.hid r0
          have H1 := Lib.hid r1
          have H2 := Lib.hid r2
          clear hcell1 hcell2 hown eU hst hst2 hlu r0 r1 r2
          go_wp2_with fail
          refine Rg.wp_region_plan (Rg.row [(0, 3), (1, 3), (2, 3), (3, 3), (4, 3), (5, 0), (6, 3), (7, 3), (8, 3), (9, 0), (10, 3), (11, 3)] [12]) [12] (by kernel_rfl) (by kernel_rfl) ?_
          simp only [Rg.row, Rg.PT.map, List.map_cons, List.map_nil, List.getD_cons_zero, List.getD_cons_succ]
          go_wp2_with (first
            | ((with_reducible refine Rg.plan_pure ?_ ?_ ?_); kernel_rfl; kernel_rfl; intro _ _)
            | ((with_reducible refine Rg.plan_take ?_ ?_ ?_); kernel_rfl; kernel_rfl; intro _ _)
            | ((with_reducible refine Rg.plan_keep ?_ ?_); kernel_rfl; intro K hK)
            | (refine hK _ _ (Rg.Keep.refl _) ?_; clear hK)
            | (refine hK _ _ (Rg.Keep.of_below (by assumption)) ?_; clear hK)
            | ((with_reducible refine Rg.plan_skip ?_ ?_); kernel_rfl)
            | (with_reducible refine Rg.plan_done ?_)
            | (with_reducible refine Rg.calm_normal ?_))
          go_roundw
          case rel =>
            refine ⟨k + 1, by omega, by go_num, HO.out.drew, ?_, ?_, ?_, (hb.setCell (by simp <;> omega) _).drew⟩
            · rw [row?_drew, row?_setCell_ne _ _ _ _ (by simp <;> omega)]; exact H0.out
            · rw [row?_drew, row?_setCell_ne _ _ _ _ (by simp <;> omega)]; exact H1.out
            · rw [row?_drew, row?_setCell_ne _ _ _ _ (by simp <;> omega)]; exact H2.out
          case measure => simp [intOf]; omega
        · have hkN : k = b.length := by omega
          rw [hkN, upto_full] at hown
          have hcr : (List.range (b.length)).map (xorF a b) = crossed a b (b.length) := rfl
          rw [hcr] at hown
          have hlin := hash_crossed h a b (b.length) (by omega) (by omega)
          have hCl := crossed_length a b (b.length)
          generalize crossed a b (b.length) = C at hown hlin hCl
          have sC : Sl wr (.slice (some ⟨w.heap.size + 1 + 1 + 1, 0, none⟩) (b.length) (b.length)) C := Own.sl (B := _) (e := 5) (by rw [hCl]; exact hown)
          have hca := hsa.cut 0 (b.length) (by omega) (by omega)
          have hcb := hsb.cut 0 (b.length) (by omega) (by omega)
          rw [List.drop_zero, Nat.sub_zero, Nat.sub_zero] at hca hcb
          have hcutA : ∀ W, (Instr.sliceAt 24 (.slice ao a.length cap) none (some (.int .i64 ((b.length : Nat) : Int))) none).run Try.prog W = .ok (.slice (cutA ao 0 cap) (b.length) cap) W := fun W => by
            rw [cut_h TB W _ _ _ _ _ (by omega) (by omega)]; rfl
          have hcutB : ∀ W, (Instr.sliceAt 24 (.slice ao2 b.length cap2) none (some (.int .i64 ((b.length : Nat) : Int))) none).run Try.prog W = .ok (.slice (cutA ao2 0 cap2) (b.length) cap2) W := fun W => by
            rw [cut_h TB W _ _ _ _ _ (by omega) (by omega)]; rfl
          generalize cutA ao 0 cap = aA at hca hcutA
          generalize cutA ao2 0 cap2 = aB at hcb hcutB
          have hta : (a.take (b.length)).length ≤ 100 := by rw [List.length_take]; omega
          have htb : (b.take (b.length)).length ≤ 100 := by rw [List.length_take]; omega
          generalize a.take (b.length) = A1 at hca hlin hta
          generalize b.take (b.length) = B1 at hcb hlin htb
          have hx3 : (w.heap.size + 1 + 1 + 1) < wr.heap.size := (hown.lt _ rfl).2
          clear hkN hcr hown
          go_wp2_with fail
          have d0 : row? wr.drew w.heap.size = some (bvs h) := r0
          have d1 : row? wr.drew (w.heap.size + 1) = some (bvs x) := r1
          have d2 : row? wr.drew (w.heap.size + 2) = some (bvs y) := r2
          have sC2 : Sl wr.drew (.slice (some ⟨w.heap.size + 1 + 1 + 1, 0, none⟩) (b.length) (b.length)) C := sC
          have bD : Below w.heap.size w wr.drew := hb.drew
          refine Rg.wp_region_flo [(0, 0), (1, 3), (2, 3), (3, 3), (7, 0), (8, 3), (9, 3), (10, 3), (14, 0), (15, 3)] [
              ⟨4, 53, [], false, fun v w' => Sl w' v A1⟩,
              ⟨5, 54, [4], false, fun v w' => Pts w' v [A1]⟩,
              ⟨6, 55, [4, 5], false, fun v _ => v = .agg (bvs (Gcm.hash h [A1]))⟩,
              ⟨11, 60, [6], false, fun v w' => Sl w' v B1⟩,
              ⟨12, 61, [11], false, fun v w' => Pts w' v [B1]⟩,
              ⟨13, 62, [11, 12], false, fun v _ => v = .agg (bvs (Gcm.hash h [B1]))⟩,
              ⟨16, 65, [], false, fun v w' => Pts w' v [C]⟩,
              ⟨17, 66, [13, 16], false, fun v _ => v = .agg (bvs (Gcm.hash h [C]))⟩,
              ⟨18, 14, [], true, fun v w' => ∃ B, v = .pointer (some ⟨B, 0, none⟩) ∧ row? w' B = some (bvs (zeros 16))⟩,
              ⟨19, 15, [], true, fun v w' => ∃ B, v = .pointer (some ⟨B, 0, none⟩) ∧ row? w' B = some (bvs (zeros 16))⟩,
              ⟨20, 16, [], true, fun v w' => ∃ B, v = .pointer (some ⟨B, 0, none⟩) ∧ row? w' B = some (bvs (zeros 16))⟩] [(4, 53, []), (5, 54, [4]), (6, 55, [4, 5]), (11, 60, [6]), (12, 61, [11]), (13, 62, [11, 12]), (16, 65, []), (17, 66, [13, 16]), (18, 14, []), (19, 15, []), (20, 16, [])] [21, 22, 23] (by kernel_rfl) (by kernel_rfl) rfl ?_
          simp only [Rg.row, Rg.PT.map, List.getD_cons_zero, List.getD_cons_succ]
          go_wp2_with (first
            | ((with_reducible refine Rg.plan_pure ?_ ?_ ?_); kernel_rfl; kernel_rfl; intro _ _)
            | ((with_reducible refine Rg.plan_take ?_ ?_ ?_); kernel_rfl; kernel_rfl; intro _ _)
            | ((with_reducible refine Rg.plan_keep ?_ ?_); kernel_rfl; intro K hK)
            | (refine hK _ _ (Rg.Keep.refl _) ?_; clear hK)
            | (refine hK _ _ (Rg.Keep.of_below (by assumption)) ?_; clear hK)
            | ((with_reducible refine Rg.plan_skip ?_ ?_); kernel_rfl)
            | (with_reducible refine Rg.plan_done ?_)
            | (with_reducible refine Rg.calm_normal ?_))
          refine Rg.phase_done (Rg.Phase.mk ?_ ?_ ?_)
          · refine List.forall_mem_cons.2 ⟨?_, List.forall_mem_cons.2 ⟨?_, List.forall_mem_cons.2 ⟨?_, List.forall_mem_cons.2 ⟨?_, List.forall_mem_cons.2 ⟨?_, List.forall_mem_cons.2 ⟨?_, List.forall_mem_cons.2 ⟨?_, List.forall_mem_cons.2 ⟨?_, List.forall_mem_cons.2 ⟨?_, List.forall_mem_cons.2 ⟨?_, List.forall_mem_cons.2 ⟨?_, fun r hr => (by cases hr)⟩⟩⟩⟩⟩⟩⟩⟩⟩⟩⟩
            · exact fun v w1 w2 hb h => h.below hb
            · exact fun v w1 w2 hb h => Pts.below h hb
            · exact fun v w1 w2 _ h => h
            · exact fun v w1 w2 hb h => h.below hb
            · exact fun v w1 w2 hb h => Pts.below h hb
            · exact fun v w1 w2 _ h => h
            · exact fun v w1 w2 hb h => Pts.below h hb
            · exact fun v w1 w2 _ h => h
            · rintro v w1 w2 hb ⟨B, e, h⟩; exact ⟨B, e, Rg.stable_row hb h⟩
            · rintro v w1 w2 hb ⟨B, e, h⟩; exact ⟨B, e, Rg.stable_row hb h⟩
            · rintro v w1 w2 hb ⟨B, e, h⟩; exact ⟨B, e, Rg.stable_row hb h⟩
          · refine List.forall_mem_cons.2 ⟨?_, List.forall_mem_cons.2 ⟨?_, List.forall_mem_cons.2 ⟨?_, List.forall_mem_cons.2 ⟨?_, List.forall_mem_cons.2 ⟨?_, List.forall_mem_cons.2 ⟨?_, List.forall_mem_cons.2 ⟨?_, List.forall_mem_cons.2 ⟨?_, List.forall_mem_cons.2 ⟨?_, List.forall_mem_cons.2 ⟨?_, List.forall_mem_cons.2 ⟨?_, fun r hr => (by cases hr)⟩⟩⟩⟩⟩⟩⟩⟩⟩⟩⟩
            · intro us wx hbx hdep K hK
              have hbw := bD.trans (hbx.mono bD.size)
              refine Rg.exec_append _ rfl Try.underlying24 hi hz0 hz1 hz2 rfl (by simp [go_sem, Rg.puts]; exact hca.below hbw) (by omega) (fun v' w' h1 h2 => hK _ _ _ rfl (Own.sl h1) h2 (fun h => (by cases h)))
            · intro us wx hbx hdep K hK
              have hq : Sl wx (us 4) A1 := (List.forall_mem_cons.1 hdep).1 (by simp)
              obtain ⟨ao', cap', e', -, -, -⟩ := id hq
              exact Rg.exec_value (v := .slice (some ⟨wx.heap.size, 0, none⟩) 1 1) (w' := wx.alloc (.cells #[us 4] 24)) (by simp [go_sem, execOp, Rg.puts, e']) (hK _ _ _ rfl (pts_one (row?_alloc_at _ _ _ _ rfl) (hq.below ((Below.refl _ _).alloc (Nat.le_refl _) _))) ((Below.refl _ _).alloc (Nat.le_refl _) _) (fun h => (by cases h)))
            · intro us wx hbx hdep K hK
              have hq : Pts wx (us 5) [A1] := (List.forall_mem_cons.1 (List.forall_mem_cons.1 hdep).2).1 (by simp)
              refine Rg.exec_call (args := #[.agg (bvs h), us 5]) (by simp [go_sem, execOp, Rg.puts]) (hash_any h hh [A1] (by simp) _ _ hq) ?_
              rintro e wy ⟨rfl, hy⟩
              exact ⟨_, rfl, hK _ _ _ rfl rfl hy (fun h => (by cases h))⟩
            · intro us wx hbx hdep K hK
              have hbw := bD.trans (hbx.mono bD.size)
              refine Rg.exec_append _ rfl Try.underlying24 hi hz0 hz1 hz2 rfl (by simp [go_sem, Rg.puts]; exact hcb.below hbw) (by omega) (fun v' w' h1 h2 => hK _ _ _ rfl (Own.sl h1) h2 (fun h => (by cases h)))
            · intro us wx hbx hdep K hK
              have hq : Sl wx (us 11) B1 := (List.forall_mem_cons.1 (List.forall_mem_cons.1 (List.forall_mem_cons.1 (List.forall_mem_cons.1 hdep).2).2).2).1 (by simp)
              obtain ⟨ao', cap', e', -, -, -⟩ := id hq
              exact Rg.exec_value (v := .slice (some ⟨wx.heap.size, 0, none⟩) 1 1) (w' := wx.alloc (.cells #[us 11] 24)) (by simp [go_sem, execOp, Rg.puts, e']) (hK _ _ _ rfl (pts_one (row?_alloc_at _ _ _ _ rfl) (hq.below ((Below.refl _ _).alloc (Nat.le_refl _) _))) ((Below.refl _ _).alloc (Nat.le_refl _) _) (fun h => (by cases h)))
            · intro us wx hbx hdep K hK
              have hq : Pts wx (us 12) [B1] := (List.forall_mem_cons.1 (List.forall_mem_cons.1 (List.forall_mem_cons.1 (List.forall_mem_cons.1 (List.forall_mem_cons.1 hdep).2).2).2).2).1 (by simp)
              refine Rg.exec_call (args := #[.agg (bvs h), us 12]) (by simp [go_sem, execOp, Rg.puts]) (hash_any h hh [B1] (by simp) _ _ hq) ?_
              rintro e wy ⟨rfl, hy⟩
              exact ⟨_, rfl, hK _ _ _ rfl rfl hy (fun h => (by cases h))⟩
            · intro us wx hbx hdep K hK
              have hq := sC2.below hbx
              obtain ⟨ao', cap', e', -, -, -⟩ := id hq
              exact Rg.exec_value (v := .slice (some ⟨wx.heap.size, 0, none⟩) 1 1) (w' := wx.alloc (.cells #[.slice (some ⟨w.heap.size + 1 + 1 + 1, 0, none⟩) (b.length) (b.length)] 24)) (by simp [go_sem, execOp, Rg.puts, e']) (hK _ _ _ rfl (pts_one (row?_alloc_at _ _ _ _ rfl) (hq.below ((Below.refl _ _).alloc (Nat.le_refl _) _))) ((Below.refl _ _).alloc (Nat.le_refl _) _) (fun h => (by cases h)))
            · intro us wx hbx hdep K hK
              have hq : Pts wx (us 16) [C] := (List.forall_mem_cons.1 (List.forall_mem_cons.1 (List.forall_mem_cons.1 (List.forall_mem_cons.1 (List.forall_mem_cons.1 (List.forall_mem_cons.1 (List.forall_mem_cons.1 hdep).2).2).2).2).2).2).1 (by simp)
              refine Rg.exec_call (args := #[.agg (bvs h), us 16]) (by simp [go_sem, execOp, Rg.puts]) (hash_any h hh [C] (by simp) _ _ hq) ?_
              rintro e wy ⟨rfl, hy⟩
              exact ⟨_, rfl, hK _ _ _ rfl rfl hy (fun h => (by cases h))⟩
            · intro us wx hbx hdep K hK
              exact Rg.exec_value (by simp [go_sem, execOp, Rg.puts]; rfl) (hK _ _ _ rfl ⟨_, rfl, row?_alloc_at _ _ _ _ rfl⟩ ((Below.refl _ _).alloc (Nat.le_refl _) _) (fun _ => ⟨Nat.le_refl _, by simp [Rg.vblk]⟩))
            · intro us wx hbx hdep K hK
              exact Rg.exec_value (by simp [go_sem, execOp, Rg.puts]; rfl) (hK _ _ _ rfl ⟨_, rfl, row?_alloc_at _ _ _ _ rfl⟩ ((Below.refl _ _).alloc (Nat.le_refl _) _) (fun _ => ⟨Nat.le_refl _, by simp [Rg.vblk]⟩))
            · intro us wx hbx hdep K hK
              exact Rg.exec_value (by simp [go_sem, execOp, Rg.puts]; rfl) (hK _ _ _ rfl ⟨_, rfl, row?_alloc_at _ _ _ _ rfl⟩ ((Below.refl _ _).alloc (Nat.le_refl _) _) (fun _ => ⟨Nat.le_refl _, by simp [Rg.vblk]⟩))
          · intro us wZ hbZ hJ hfr hne
            have ne1 : Rg.vblk (us 18) ≠ Rg.vblk (us 19) := hne _ (List.getElem_mem (n := 8) (by simp)) _ (List.getElem_mem (n := 9) (by simp)) (by simp) rfl rfl
            have ne2 : Rg.vblk (us 18) ≠ Rg.vblk (us 20) := hne _ (List.getElem_mem (n := 8) (by simp)) _ (List.getElem_mem (n := 10) (by simp)) (by simp) rfl rfl
            have ne3 : Rg.vblk (us 19) ≠ Rg.vblk (us 20) := hne _ (List.getElem_mem (n := 9) (by simp)) _ (List.getElem_mem (n := 10) (by simp)) (by simp) rfl rfl
            have fr1 : wr.drew.heap.size ≤ Rg.vblk (us 18) := (hfr _ (List.getElem_mem (n := 8) (by simp)) rfl).1
            have fr2 : wr.drew.heap.size ≤ Rg.vblk (us 19) := (hfr _ (List.getElem_mem (n := 9) (by simp)) rfl).1
            have fr3 : wr.drew.heap.size ≤ Rg.vblk (us 20) := (hfr _ (List.getElem_mem (n := 10) (by simp)) rfl).1
            simp only [List.forall_mem_cons] at hJ
            obtain ⟨-, -, e6, -, -, e13, -, e17, ⟨BP, e18, rP⟩, ⟨BQ, e19, rQ⟩, ⟨BR, e20, rR⟩, -⟩ := hJ
            simp only [e18, e19, e20, Rg.vblk] at ne1 ne2 ne3 fr1 fr2 fr3
            simp at fr1 fr2 fr3
            have y0 := Rg.stable_row hbZ d0
            have y1 := Rg.stable_row hbZ d1
            have y2 := Rg.stable_row hbZ d2
            have zb : Below w.heap.size w wZ := bD.trans (hbZ.mono bD.size)
            simp only [Rg.puts, List.map_cons, List.map_nil, List.getD_cons_zero, List.getD_cons_succ]
            simp only [e6, e13, e17, e18, e19, e20]
            have hPl := hash_length h [A1]
            have hQl := hash_length h [B1]
            have hRl := hash_length h [C]
            generalize Gcm.hash h [A1] = PP at *
            generalize Gcm.hash h [B1] = QQ at *
            generalize Gcm.hash h [C] = RR at *
            have hRR := Lib.hid hlin
            clear hlin
            have qP := row?_lt rP
            have qQ := row?_lt rQ
            have qR := row?_lt rR
            have rQ2 : row? (wZ.setRow BP (bvs PP)) BQ = some (bvs (zeros 16)) := by rw [row?_setRow_ne _ _ _ _ (by omega)]; exact rQ
            have rR2 : row? ((wZ.setRow BP (bvs PP)).setRow BQ (bvs QQ)) BR = some (bvs (zeros 16)) := by rw [row?_setRow_ne _ _ _ _ (by omega), row?_setRow_ne _ _ _ _ (by omega)]; exact rR
            have EP := Lib.hid (show row? (((wZ.setRow BP (bvs PP)).setRow BQ (bvs QQ)).setRow BR (bvs RR)) BP = some (bvs PP) by rw [row?_setRow_ne _ _ _ _ (by omega), row?_setRow_ne _ _ _ _ (by omega)]; exact row?_setRow_eq rP)
            have EQ := Lib.hid (show row? (((wZ.setRow BP (bvs PP)).setRow BQ (bvs QQ)).setRow BR (bvs RR)) BQ = some (bvs QQ) by rw [row?_setRow_ne _ _ _ _ (by omega)]; exact row?_setRow_eq rQ2)
            have ER := Lib.hid (show row? (((wZ.setRow BP (bvs PP)).setRow BQ (bvs QQ)).setRow BR (bvs RR)) BR = some (bvs RR) from row?_setRow_eq rR2)
            have E0 := Lib.hid (show row? (((wZ.setRow BP (bvs PP)).setRow BQ (bvs QQ)).setRow BR (bvs RR)) (w.heap.size + 0) = some (bvs h) by rw [row?_setRow_ne _ _ _ _ (by omega), row?_setRow_ne _ _ _ _ (by omega), row?_setRow_ne _ _ _ _ (by omega)]; exact y0)
            have E1 := Lib.hid (show row? (((wZ.setRow BP (bvs PP)).setRow BQ (bvs QQ)).setRow BR (bvs RR)) (w.heap.size + 1) = some (bvs x) by rw [row?_setRow_ne _ _ _ _ (by omega), row?_setRow_ne _ _ _ _ (by omega), row?_setRow_ne _ _ _ _ (by omega)]; exact y1)
            have E2 := Lib.hid (show row? (((wZ.setRow BP (bvs PP)).setRow BQ (bvs QQ)).setRow BR (bvs RR)) (w.heap.size + 2) = some (bvs y) by rw [row?_setRow_ne _ _ _ _ (by omega), row?_setRow_ne _ _ _ _ (by omega), row?_setRow_ne _ _ _ _ (by omega)]; exact y2)
            have EB := Lib.hid (below_setRow (below_setRow (below_setRow zb (by omega : w.heap.size ≤ BP) (bvs PP)) (by omega : w.heap.size ≤ BQ) (bvs QQ)) (by omega : w.heap.size ≤ BR) (bvs RR))
            have hsz : (((wZ.setRow BP (bvs PP)).setRow BQ (bvs QQ)).setRow BR (bvs RR)).heap.size = wZ.heap.size := by simp
            clear y0 y1 y2 hne hfr e6 e13 e17 e18 e19 e20 d0 d1 d2 r0 r1 r2 hcutA hcutB
            go_wp2_with (first
              | ((with_reducible refine Rg.plan_pure ?_ ?_ ?_); kernel_rfl; kernel_rfl; intro _ _)
              | ((with_reducible refine Rg.plan_take ?_ ?_ ?_); kernel_rfl; kernel_rfl; intro _ _)
              | ((with_reducible refine Rg.plan_keep ?_ ?_); kernel_rfl; intro K hK)
              | (refine hK _ _ (Rg.Keep.refl _) ?_; clear hK)
              | (refine hK _ _ (Rg.Keep.of_below (by assumption)) ?_; clear hK)
              | ((with_reducible refine Rg.plan_skip ?_ ?_); kernel_rfl)
              | (with_reducible refine Rg.plan_done ?_)
              | (with_reducible refine Rg.calm_normal ?_))
            clear rP rQ rR rQ2 rR2
            generalize (((wZ.setRow BP (bvs PP)).setRow BQ (bvs QQ)).setRow BR (bvs RR)) = wT at *
            have q0 := row?_lt E0.out
            have q1 := row?_lt E1.out
            have q2 := row?_lt E2.out
            have qP2 := row?_lt EP.out
            have qQ2 := row?_lt EQ.out
            have qR2 := row?_lt ER.out
            have s0 : row? ((wT.alloc (.cells (bvs (zeros 16)) 22)).alloc (.cells (bvs (zeros 16)) 22)).drew (w.heap.size) = some (bvs (h)) := by rw [row?_drew, row?_alloc_past _ _ _ (by simp; omega), row?_alloc_past _ _ _ (by omega)]; exact E0.out
            have s1 : row? ((wT.alloc (.cells (bvs (zeros 16)) 22)).alloc (.cells (bvs (zeros 16)) 22)).drew (w.heap.size + 1) = some (bvs (x)) := by rw [row?_drew, row?_alloc_past _ _ _ (by simp; omega), row?_alloc_past _ _ _ (by omega)]; exact E1.out
            have s2 : row? ((wT.alloc (.cells (bvs (zeros 16)) 22)).alloc (.cells (bvs (zeros 16)) 22)).drew (w.heap.size + 2) = some (bvs (y)) := by rw [row?_drew, row?_alloc_past _ _ _ (by simp; omega), row?_alloc_past _ _ _ (by omega)]; exact E2.out
            have s3 : row? ((wT.alloc (.cells (bvs (zeros 16)) 22)).alloc (.cells (bvs (zeros 16)) 22)).drew (BP) = some (bvs (PP)) := by rw [row?_drew, row?_alloc_past _ _ _ (by simp; omega), row?_alloc_past _ _ _ (by omega)]; exact EP.out
            have s4 : row? ((wT.alloc (.cells (bvs (zeros 16)) 22)).alloc (.cells (bvs (zeros 16)) 22)).drew (BQ) = some (bvs (QQ)) := by rw [row?_drew, row?_alloc_past _ _ _ (by simp; omega), row?_alloc_past _ _ _ (by omega)]; exact EQ.out
            have s5 : row? ((wT.alloc (.cells (bvs (zeros 16)) 22)).alloc (.cells (bvs (zeros 16)) 22)).drew (BR) = some (bvs (RR)) := by rw [row?_drew, row?_alloc_past _ _ _ (by simp; omega), row?_alloc_past _ _ _ (by omega)]; exact ER.out
            have s6 : row? ((wT.alloc (.cells (bvs (zeros 16)) 22)).alloc (.cells (bvs (zeros 16)) 22)).drew wT.heap.size = some (bvs (zeros 16)) := by rw [row?_drew, row?_alloc_past _ _ _ (by simp)]; exact row?_alloc_at _ _ _ _ rfl
            have s7 : row? ((wT.alloc (.cells (bvs (zeros 16)) 22)).alloc (.cells (bvs (zeros 16)) 22)).drew (wT.heap.size + 1) = some (bvs (zeros 16)) := by rw [row?_drew]; exact row?_alloc_at _ _ _ _ (by simp)
            have sB : Below w.heap.size w ((wT.alloc (.cells (bvs (zeros 16)) 22)).alloc (.cells (bvs (zeros 16)) 22)).drew := ((EB.out.alloc (by omega) _).alloc (by simp; omega) _).drew
            have hsz2 : ((wT.alloc (.cells (bvs (zeros 16)) 22)).alloc (.cells (bvs (zeros 16)) 22)).drew.heap.size = wT.heap.size + 2 := by simp
            clear E0 E1 E2 EP EQ ER EB
            rw [hsz] at s6 s7
            have t3 := Lib.hid s3
            have t4 := Lib.hid s4
            have t5 := Lib.hid s5
            have t6 := Lib.hid s6
            have t7 := Lib.hid s7
            clear s3 s4 s5 s6 s7
            have CX : ∀ W, Calls Try.prog 18 #[.agg (bvs x), .agg (bvs h)] W fun e w' => e = .returned (.agg (bvs (Gcm.times x h))) ∧ Below W.heap.size W w' := fun W => ptimes_any x h hx hh W
            have CY : ∀ W, Calls Try.prog 18 #[.agg (bvs y), .agg (bvs h)] W fun e w' => e = .returned (.agg (bvs (Gcm.times y h))) ∧ Below W.heap.size W w' := fun W => ptimes_any y h hy hh W
            have HPT : ∀ W, Calls Try.prog 18 #[.agg (bvs (add x y)), .agg (bvs h)] W fun e w' => e = .returned (.agg (bvs (add (Gcm.times x h) (Gcm.times y h)))) ∧ Below W.heap.size W w' := fun W => by
              rw [← times_addL]; exact ptimes_any (add x y) h (add_length _ _) hh W
            have HPU : ∀ W, Calls Try.prog 18 #[.agg (bvs h), .agg (bvs (add x y))] W fun e w' => e = .returned (.agg (bvs (add (Gcm.times x h) (Gcm.times y h)))) ∧ Below W.heap.size W w' := fun W => by
              rw [← times_addL, times_comm]; exact ptimes_any h (add x y) hh (add_length _ _) W
            have hUl := times_length x h
            have hVl := times_length y h
            generalize Gcm.times x h = U at *
            generalize Gcm.times y h = V at *
            generalize hXY : add x y = XY at HPT HPU
            generalize hUV : add U V = UV at HPT HPU
            have GX := Lib.hid CX
            have GY := Lib.hid CY
            have GPT := Lib.hid HPT
            have GPU := Lib.hid HPU
            have GXY := Lib.hid hXY
            have GUV := Lib.hid hUV
            clear CX CY HPT HPU hXY hUV
            refine Rg.wp_region_flo [(0, 0), (1, 0), (3, 0), (4, 0)] [
                ⟨2, 69, [], false, fun v _ => v = .agg (bvs U)⟩,
                ⟨5, 72, [2], false, fun v _ => v = .agg (bvs V)⟩,
                ⟨6, 19, [], true, fun v w' => ∃ B, v = .pointer (some ⟨B, 0, none⟩) ∧ row? w' B = some (bvs (zeros 16))⟩,
                ⟨7, 20, [], true, fun v w' => ∃ B, v = .pointer (some ⟨B, 0, none⟩) ∧ row? w' B = some (bvs (zeros 16))⟩] [(2, 69, []), (5, 72, [2]), (6, 19, []), (7, 20, [])] [8, 9] (by kernel_rfl) (by kernel_rfl) rfl ?_
            simp only [Rg.row, Rg.PT.map, List.getD_cons_zero, List.getD_cons_succ]
            generalize ((wT.alloc (.cells (bvs (zeros 16)) 22)).alloc (.cells (bvs (zeros 16)) 22)).drew = wS at *
            ((with_reducible refine Rg.plan_take ?_ ?_ ?_); kernel_rfl; kernel_rfl; intro K hK; refine exec_load16 (l := x) rfl (by kernel_rfl) s1 hx (hK _ _ ?_); clear hK K)
            ((with_reducible refine Rg.plan_take ?_ ?_ ?_); kernel_rfl; kernel_rfl; intro K hK; refine exec_load16 (l := h) rfl (by kernel_rfl) s0 hh (hK _ _ ?_); clear hK K)
            ((with_reducible refine Rg.plan_take ?_ ?_ ?_); kernel_rfl; kernel_rfl; intro K hK; refine exec_load16 (l := y) rfl (by kernel_rfl) s2 hy (hK _ _ ?_); clear hK K)
            ((with_reducible refine Rg.plan_take ?_ ?_ ?_); kernel_rfl; kernel_rfl; intro K hK; refine exec_load16 (l := h) rfl (by kernel_rfl) s0 hh (hK _ _ ?_); clear hK K)
            with_reducible refine Rg.plan_done ?_
            refine Rg.phase_done (Rg.Phase.mk ?_ ?_ ?_)
            · refine List.forall_mem_cons.2 ⟨?_, List.forall_mem_cons.2 ⟨?_, List.forall_mem_cons.2 ⟨?_, List.forall_mem_cons.2 ⟨?_, fun r hr => (by cases hr)⟩⟩⟩⟩
              · exact fun v w1 w2 _ h => h
              · exact fun v w1 w2 _ h => h
              · rintro v w1 w2 hb ⟨B, e, h⟩; exact ⟨B, e, Rg.stable_row hb h⟩
              · rintro v w1 w2 hb ⟨B, e, h⟩; exact ⟨B, e, Rg.stable_row hb h⟩
            · refine List.forall_mem_cons.2 ⟨?_, List.forall_mem_cons.2 ⟨?_, List.forall_mem_cons.2 ⟨?_, List.forall_mem_cons.2 ⟨?_, fun r hr => (by cases hr)⟩⟩⟩⟩
              · intro us wx hbx hdep K hK
                refine Rg.exec_call (args := #[.agg (bvs x), .agg (bvs h)]) (by simp [go_sem, execOp, Rg.puts]) (GX.out _) ?_
                rintro e wy ⟨rfl, hy⟩
                exact ⟨_, rfl, hK _ _ _ rfl rfl hy (fun h => (by cases h))⟩
              · intro us wx hbx hdep K hK
                refine Rg.exec_call (args := #[.agg (bvs y), .agg (bvs h)]) (by simp [go_sem, execOp, Rg.puts]) (GY.out _) ?_
                rintro e wy ⟨rfl, hy⟩
                exact ⟨_, rfl, hK _ _ _ rfl rfl hy (fun h => (by cases h))⟩
              · intro us wx hbx hdep K hK
                exact Rg.exec_value (by simp [go_sem, execOp, Rg.puts]; rfl) (hK _ _ _ rfl ⟨_, rfl, row?_alloc_at _ _ _ _ rfl⟩ ((Below.refl _ _).alloc (Nat.le_refl _) _) (fun _ => ⟨Nat.le_refl _, by simp [Rg.vblk]⟩))
              · intro us wx hbx hdep K hK
                exact Rg.exec_value (by simp [go_sem, execOp, Rg.puts]; rfl) (hK _ _ _ rfl ⟨_, rfl, row?_alloc_at _ _ _ _ rfl⟩ ((Below.refl _ _).alloc (Nat.le_refl _) _) (fun _ => ⟨Nat.le_refl _, by simp [Rg.vblk]⟩))
            · intro us2 wY hbY hJ hfr hne
              have ne4 : Rg.vblk (us2 6) ≠ Rg.vblk (us2 7) := hne _ (List.getElem_mem (n := 2) (by simp)) _ (List.getElem_mem (n := 3) (by simp)) (by simp) rfl rfl
              have fr4 : wS.heap.size ≤ Rg.vblk (us2 6) := (hfr _ (List.getElem_mem (n := 2) (by simp)) rfl).1
              have fr5 : wS.heap.size ≤ Rg.vblk (us2 7) := (hfr _ (List.getElem_mem (n := 3) (by simp)) rfl).1
              simp only [List.forall_mem_cons] at hJ
              obtain ⟨e2, e5, ⟨BU, e6, rU⟩, ⟨BV, e7, rV⟩, -⟩ := hJ
              simp only [e6, e7, Rg.vblk] at ne4 fr4 fr5
              try simp at fr4 fr5
              have zb2 : Below w.heap.size w wY := sB.trans (hbY.mono sB.size)
              simp only [Rg.puts, List.map_cons, List.map_nil, List.getD_cons_zero, List.getD_cons_succ]
              simp only [e2, e5, e6, e7]
              have rV2 : row? (wY.setRow BU (bvs U)) BV = some (bvs (zeros 16)) := by rw [row?_setRow_ne _ _ _ _ (fun e => ne4 e.symm)]; exact rV
              have EU := Lib.hid (show row? ((wY.setRow BU (bvs U)).setRow BV (bvs V)) BU = some (bvs U) by rw [row?_setRow_ne _ _ _ _ ne4]; exact row?_setRow_eq rU)
              have EV := Lib.hid (row?_setRow_eq rV2 (c' := bvs V))
              have E0 := Lib.hid (show row? ((wY.setRow BU (bvs U)).setRow BV (bvs V)) (w.heap.size) = some (bvs (h)) by rw [row?_setRow_ne _ _ _ _ (by omega), row?_setRow_ne _ _ _ _ (by omega)]; exact Rg.stable_row hbY s0)
              have E1 := Lib.hid (show row? ((wY.setRow BU (bvs U)).setRow BV (bvs V)) (w.heap.size + 1) = some (bvs (x)) by rw [row?_setRow_ne _ _ _ _ (by omega), row?_setRow_ne _ _ _ _ (by omega)]; exact Rg.stable_row hbY s1)
              have E2 := Lib.hid (show row? ((wY.setRow BU (bvs U)).setRow BV (bvs V)) (w.heap.size + 2) = some (bvs (y)) by rw [row?_setRow_ne _ _ _ _ (by omega), row?_setRow_ne _ _ _ _ (by omega)]; exact Rg.stable_row hbY s2)
              have E3 := Lib.hid (show row? ((wY.setRow BU (bvs U)).setRow BV (bvs V)) (BP) = some (bvs (PP)) by rw [row?_setRow_ne _ _ _ _ (by omega), row?_setRow_ne _ _ _ _ (by omega)]; exact Rg.stable_row hbY t3.out)
              have E4 := Lib.hid (show row? ((wY.setRow BU (bvs U)).setRow BV (bvs V)) (BQ) = some (bvs (QQ)) by rw [row?_setRow_ne _ _ _ _ (by omega), row?_setRow_ne _ _ _ _ (by omega)]; exact Rg.stable_row hbY t4.out)
              have E5 := Lib.hid (show row? ((wY.setRow BU (bvs U)).setRow BV (bvs V)) (BR) = some (bvs (RR)) by rw [row?_setRow_ne _ _ _ _ (by omega), row?_setRow_ne _ _ _ _ (by omega)]; exact Rg.stable_row hbY t5.out)
              have E6 := Lib.hid (show row? ((wY.setRow BU (bvs U)).setRow BV (bvs V)) (wZ.heap.size) = some (bvs (zeros 16)) by rw [row?_setRow_ne _ _ _ _ (by omega), row?_setRow_ne _ _ _ _ (by omega)]; exact Rg.stable_row hbY t6.out)
              have E7 := Lib.hid (show row? ((wY.setRow BU (bvs U)).setRow BV (bvs V)) (wZ.heap.size + 1) = some (bvs (zeros 16)) by rw [row?_setRow_ne _ _ _ _ (by omega), row?_setRow_ne _ _ _ _ (by omega)]; exact Rg.stable_row hbY t7.out)
              have EB := below_setRow (below_setRow zb2 (by omega : w.heap.size ≤ BU) (bvs U)) (by omega : w.heap.size ≤ BV) (bvs V)
              clear hne hfr e2 e5 e6 e7 s0 s1 s2 t3 t4 t5 t6 t7 hbY
              go_wp2_with (first
                | ((with_reducible refine Rg.plan_pure ?_ ?_ ?_); kernel_rfl; kernel_rfl; intro _ _)
                | ((with_reducible refine Rg.plan_take ?_ ?_ ?_); kernel_rfl; kernel_rfl; intro _ _)
                | ((with_reducible refine Rg.plan_keep ?_ ?_); kernel_rfl; intro K hK)
                | (refine hK _ _ (Rg.Keep.refl _) ?_; clear hK)
                | (refine hK _ _ (Rg.Keep.of_below (by assumption)) ?_; clear hK)
                | ((with_reducible refine Rg.plan_skip ?_ ?_); kernel_rfl)
                | (with_reducible refine Rg.plan_done ?_)
                | (with_reducible refine Rg.calm_normal ?_))
              clear rU rV rV2
              go_loopw [21] (fun v wr => ∃ k : Nat, k ≤ 16 ∧ v = .int .i64 k ∧ row? wr w.heap.size = some (bvs h) ∧ row? wr (w.heap.size + 1) = some (bvs x) ∧ row? wr (w.heap.size + 2) = some (bvs y) ∧ row? wr BP = some (bvs PP) ∧ row? wr BQ = some (bvs QQ) ∧ row? wr BR = some (bvs RR)
                  ∧ row? wr wZ.heap.size = some (bvs (upto (addF PP QQ) (zeros 16) 16 k)) ∧ row? wr (wZ.heap.size + 1) = some (bvs (upto (addF x y) (zeros 16) 16 k)) ∧ row? wr BU = some (bvs (upto (addF U V) U 16 k)) ∧ row? wr BV = some (bvs V) ∧ Below w.heap.size w wr) (fun v _ => 16 - (intOf v).toNat)
              case atStart => exact ⟨0, by omega, rfl, E0.out, E1.out, E2.out, E3.out, E4.out, E5.out, by rw [upto_zero _ _ _ (zeros_length _)]; exact E6.out, by rw [upto_zero _ _ _ (zeros_length _)]; exact E7.out, by rw [upto_zero _ _ _ hUl]; exact EU.out, EV.out, EB⟩
              case round =>
                obtain ⟨k, hk, rfl, r0, r1, r2, r3, r4, r5, r6, r7, rU, rV, hb⟩ := hrel
                clear E0 E1 E2 E3 E4 E5 E6 E7 EU EV
                by_cases hlt : k < 16
                · have G1 := Lib.hid (upto_set (addF PP QQ) (zeros 16) 16 k hlt)
                  have G2 := Lib.hid (upto_set (addF x y) (zeros 16) 16 k hlt)
                  have G3 := Lib.hid (upto_set (addF U V) U 16 k hlt)
                  have gU := upto_hi (f := addF U V) (z := U) hlt (Nat.le_refl k)
                  have F0 := Lib.hid r0
                  have F1 := Lib.hid r1
                  have F2 := Lib.hid r2
                  have F3 := Lib.hid r3
                  have F4 := Lib.hid r4
                  have F5 := Lib.hid r5
                  have F6 := Lib.hid r6
                  have F7 := Lib.hid r7
                  have FU := Lib.hid rU
                  have FV := Lib.hid rV
                  have c1 := row?_cell r1
                  have c2 := row?_cell r2
                  have c3 := row?_cell r3
                  have c4 := row?_cell r4
                  have c6 := row?_cell r6
                  have c7 := row?_cell r7
                  have cU := row?_cell rU
                  have cV := row?_cell rV
                  have f6 := row?_frozen r6
                  have f7 := row?_frozen r7
                  have fU := row?_frozen rU
                  have n1 : BU ≠ wZ.heap.size := by omega
                  have n2 : BU ≠ wZ.heap.size + 1 := by omega
                  have n3 : BV ≠ wZ.heap.size := by omega
                  have n4 : BV ≠ wZ.heap.size + 1 := by omega
                  clear r0 r1 r2 r3 r4 r5 r6 r7 rU rV
                  go_wp2_with fail
                  go_region
                  all_goals (go_wp2_with fail)
                  refine Rg.wp_region_plan (Rg.row [(0, 3), (1, 3), (2, 3), (3, 0), (4, 3), (5, 3), (6, 0), (7, 3), (8, 3)] [9]) [9] (by kernel_rfl) (by kernel_rfl) ?_
                  simp only [Rg.row, Rg.PT.map, List.map_cons, List.map_nil, List.getD_cons_zero, List.getD_cons_succ]
                  go_wp2_with (first
                    | ((with_reducible refine Rg.plan_pure ?_ ?_ ?_); kernel_rfl; kernel_rfl; intro _ _)
                    | ((with_reducible refine Rg.plan_take ?_ ?_ ?_); kernel_rfl; kernel_rfl; intro _ _)
                    | ((with_reducible refine Rg.plan_keep ?_ ?_); kernel_rfl; intro K hK)
                    | (refine hK _ _ (Rg.Keep.refl _) ?_; clear hK)
                    | (refine hK _ _ (Rg.Keep.of_below (by assumption)) ?_; clear hK)
                    | ((with_reducible refine Rg.plan_skip ?_ ?_); kernel_rfl)
                    | (with_reducible refine Rg.plan_done ?_)
                    | (with_reducible refine Rg.calm_normal ?_))
                  go_roundw
                  case rel =>
                    refine ⟨k + 1, by omega, by go_num, ?_, ?_, ?_, ?_, ?_, ?_, ?_, ?_, ?_, ?_, ((((hb.setCell (by simp <;> omega) _).setCell (by simp <;> omega) _).setCell (by simp <;> omega) _).drew).drew⟩
                    · rw [row?_drew, row?_drew, row?_setCell_ne _ _ _ _ (by simp <;> omega), row?_setCell_ne _ _ _ _ (by simp <;> omega), row?_setCell_ne _ _ _ _ (by simp <;> omega)]; exact F0.out
                    · rw [row?_drew, row?_drew, row?_setCell_ne _ _ _ _ (by simp <;> omega), row?_setCell_ne _ _ _ _ (by simp <;> omega), row?_setCell_ne _ _ _ _ (by simp <;> omega)]; exact F1.out
                    · rw [row?_drew, row?_drew, row?_setCell_ne _ _ _ _ (by simp <;> omega), row?_setCell_ne _ _ _ _ (by simp <;> omega), row?_setCell_ne _ _ _ _ (by simp <;> omega)]; exact F2.out
                    · rw [row?_drew, row?_drew, row?_setCell_ne _ _ _ _ (by simp <;> omega), row?_setCell_ne _ _ _ _ (by simp <;> omega), row?_setCell_ne _ _ _ _ (by simp <;> omega)]; exact F3.out
                    · rw [row?_drew, row?_drew, row?_setCell_ne _ _ _ _ (by simp <;> omega), row?_setCell_ne _ _ _ _ (by simp <;> omega), row?_setCell_ne _ _ _ _ (by simp <;> omega)]; exact F4.out
                    · rw [row?_drew, row?_drew, row?_setCell_ne _ _ _ _ (by simp <;> omega), row?_setCell_ne _ _ _ _ (by simp <;> omega), row?_setCell_ne _ _ _ _ (by simp <;> omega)]; exact F5.out
                    · rw [row?_drew, row?_drew, row?_setCell_ne _ _ _ _ (by simp <;> omega), row?_setCell_ne _ _ _ _ (by simp <;> omega), row?_setCell_eq F6.out, bvs_setn]; exact congrArg (fun l => some (bvs l)) G1.out
                    · rw [row?_drew, row?_drew, row?_setCell_ne _ _ _ _ (by simp <;> omega), row?_setCell_eq (by rw [row?_setCell_ne _ _ _ _ (by simp <;> omega)]; exact F7.out), bvs_setn]; exact congrArg (fun l => some (bvs l)) G2.out
                    · rw [row?_drew, row?_drew, row?_setCell_eq (by rw [row?_setCell_ne _ _ _ _ (by simp <;> omega), row?_setCell_ne _ _ _ _ (by simp <;> omega)]; exact FU.out), bvs_setn]; exact congrArg (fun l => some (bvs l)) G3.out
                    · rw [row?_drew, row?_drew, row?_setCell_ne _ _ _ _ (by simp <;> omega), row?_setCell_ne _ _ _ _ (by simp <;> omega), row?_setCell_ne _ _ _ _ (by simp <;> omega)]; exact FV.out
                  case measure => simp [intOf]; omega
                · obtain rfl : k = 16 := by omega
                  rw [upto_full] at r6 r7 rU
                  have e6 : (List.range 16).map (addF PP QQ) = RR := hRR.out.symm
                  have e7 : (List.range 16).map (addF x y) = XY := GXY.out
                  have eU : (List.range 16).map (addF U V) = UV := GUV.out
                  rw [e6] at r6
                  rw [e7] at r7
                  rw [eU] at rU
                  have l1 : RR.length = 16 := hRl
                  have l2 : XY.length = 16 := by rw [← GXY.out]; exact add_length _ _
                  have l3 : UV.length = 16 := by rw [← GUV.out]; exact add_length _ _
                  have zr := hb.size
                  have q6 := row?_lt r6
                  have q7 := row?_lt r7
                  have q5 := row?_lt r5
                  have qU := row?_lt rU
                  clear e6 e7 eU r1 r2 r3 r4 rV
                  go_wp2_with fail
                  refine Rg.wp_region_plan (Rg.row [(0, 0), (1, 0), (2, 1), (3, 3), (4, 0), (5, 0), (7, 0), (6, 1), (8, 1), (9, 3), (10, 3), (11, 0), (12, 0), (14, 0), (13, 1), (15, 1), (16, 3), (17, 3), (18, 1), (19, 3), (20, 3)] []) [] (by kernel_rfl) (by kernel_rfl) ?_
                  simp only [Rg.row, Rg.PT.map, List.map_nil, List.getD_cons_zero, List.getD_cons_succ]
                  go_wp2_with (first
                    | ((with_reducible refine Rg.plan_pure ?_ ?_ ?_); kernel_rfl; kernel_rfl; intro _ _)
                    | ((with_reducible refine Rg.plan_take ?_ ?_ ?_); kernel_rfl; kernel_rfl; intro _ _)
                    | ((with_reducible refine Rg.plan_keep ?_ ?_); kernel_rfl; intro K hK)
                    | (refine hK _ _ (Rg.Keep.refl _) ?_; clear hK)
                    | (refine hK _ _ (Rg.Keep.of_below (by assumption)) ?_; clear hK)
                    | ((with_reducible refine Rg.plan_skip ?_ ?_); kernel_rfl)
                    | (with_reducible refine Rg.plan_done ?_)
                    | (with_reducible refine Rg.calm_normal ?_))
                  refine hK _ _ (Rg.Keep.refl _) ?_
                  clear hK
                  go_wp2_with (first
                    | ((with_reducible refine Rg.plan_pure ?_ ?_ ?_); kernel_rfl; kernel_rfl; intro _ _)
                    | ((with_reducible refine Rg.plan_take ?_ ?_ ?_); kernel_rfl; kernel_rfl; intro _ _)
                    | ((with_reducible refine Rg.plan_keep ?_ ?_); kernel_rfl; intro K hK)
                    | (refine hK _ _ (Rg.Keep.refl _) ?_; clear hK)
                    | (refine hK _ _ (Rg.Keep.of_below (by assumption)) ?_; clear hK)
                    | ((with_reducible refine Rg.plan_skip ?_ ?_); kernel_rfl)
                    | (with_reducible refine Rg.plan_done ?_)
                    | (with_reducible refine Rg.calm_normal ?_))
                  refine (GPT.out _).mono ?_
                  rintro e wc1 ⟨rfl, hA⟩
                  refine hK _ _ (Rg.Keep.of_below hA) ?_
                  clear hK
                  have zc1 := hA.size
                  try simp at zc1
                  have rc1_0 : row? wc1 (w.heap.size) = some (bvs (h)) := by rw [row?_below hA (by first | omega | (simp; done) | (simp; omega))]; exact r0
                  have rc1_1 : row? wc1 (BR) = some (bvs (RR)) := by rw [row?_below hA (by first | omega | (simp; done) | (simp; omega))]; exact r5
                  have rc1_2 : row? wc1 (wZ.heap.size) = some (bvs (RR)) := by rw [row?_below hA (by first | omega | (simp; done) | (simp; omega))]; exact r6
                  have rc1_3 : row? wc1 (wZ.heap.size + 1) = some (bvs (XY)) := by rw [row?_below hA (by first | omega | (simp; done) | (simp; omega))]; exact r7
                  have rc1_4 : row? wc1 (BU) = some (bvs (UV)) := by rw [row?_below hA (by first | omega | (simp; done) | (simp; omega))]; exact rU
                  have bc1 : Below w.heap.size w wc1 := hb.drew.trans (hA.mono (by first | omega | (simp; done) | (simp; omega)))
                  clear hA 
                  go_wp2_with (first
                    | ((with_reducible refine Rg.plan_pure ?_ ?_ ?_); kernel_rfl; kernel_rfl; intro _ _)
                    | ((with_reducible refine Rg.plan_take ?_ ?_ ?_); kernel_rfl; kernel_rfl; intro _ _)
                    | ((with_reducible refine Rg.plan_keep ?_ ?_); kernel_rfl; intro K hK)
                    | (refine hK _ _ (Rg.Keep.refl _) ?_; clear hK)
                    | (refine hK _ _ (Rg.Keep.of_below (by assumption)) ?_; clear hK)
                    | ((with_reducible refine Rg.plan_skip ?_ ?_); kernel_rfl)
                    | (with_reducible refine Rg.plan_done ?_)
                    | (with_reducible refine Rg.calm_normal ?_))
                  refine hK _ _ (Rg.Keep.refl _) ?_
                  clear hK
                  go_wp2_with (first
                    | ((with_reducible refine Rg.plan_pure ?_ ?_ ?_); kernel_rfl; kernel_rfl; intro _ _)
                    | ((with_reducible refine Rg.plan_take ?_ ?_ ?_); kernel_rfl; kernel_rfl; intro _ _)
                    | ((with_reducible refine Rg.plan_keep ?_ ?_); kernel_rfl; intro K hK)
                    | (refine hK _ _ (Rg.Keep.refl _) ?_; clear hK)
                    | (refine hK _ _ (Rg.Keep.of_below (by assumption)) ?_; clear hK)
                    | ((with_reducible refine Rg.plan_skip ?_ ?_); kernel_rfl)
                    | (with_reducible refine Rg.plan_done ?_)
                    | (with_reducible refine Rg.calm_normal ?_))
                  refine (GPU.out _).mono ?_
                  rintro e wc2 ⟨rfl, hA⟩
                  refine hK _ _ (Rg.Keep.of_below hA) ?_
                  clear hK
                  have zc2 := hA.size
                  try simp at zc2
                  have rc2_0 : row? wc2 (w.heap.size) = some (bvs (h)) := by rw [row?_below hA (by first | omega | (simp; done) | (simp; omega))]; exact rc1_0
                  have rc2_1 : row? wc2 (BR) = some (bvs (RR)) := by rw [row?_below hA (by first | omega | (simp; done) | (simp; omega))]; exact rc1_1
                  have rc2_2 : row? wc2 (wZ.heap.size) = some (bvs (RR)) := by rw [row?_below hA (by first | omega | (simp; done) | (simp; omega))]; exact rc1_2
                  have rc2_3 : row? wc2 (wZ.heap.size + 1) = some (bvs (XY)) := by rw [row?_below hA (by first | omega | (simp; done) | (simp; omega))]; exact rc1_3
                  have rc2_4 : row? wc2 (BU) = some (bvs (UV)) := by rw [row?_below hA (by first | omega | (simp; done) | (simp; omega))]; exact rc1_4
                  have bc2 : Below w.heap.size w wc2 := bc1.trans (hA.mono (by first | omega | (simp; done) | (simp; omega)))
                  clear hA rc1_0 rc1_1 rc1_2 rc1_3 rc1_4
                  go_wp2_with (first
                    | ((with_reducible refine Rg.plan_pure ?_ ?_ ?_); kernel_rfl; kernel_rfl; intro _ _)
                    | ((with_reducible refine Rg.plan_take ?_ ?_ ?_); kernel_rfl; kernel_rfl; intro _ _)
                    | ((with_reducible refine Rg.plan_keep ?_ ?_); kernel_rfl; intro K hK)
                    | (refine hK _ _ (Rg.Keep.refl _) ?_; clear hK)
                    | (refine hK _ _ (Rg.Keep.of_below (by assumption)) ?_; clear hK)
                    | ((with_reducible refine Rg.plan_skip ?_ ?_); kernel_rfl)
                    | (with_reducible refine Rg.plan_done ?_)
                    | (with_reducible refine Rg.calm_normal ?_))
                  refine hK _ _ (Rg.Keep.refl _) ?_
                  clear hK
                  go_wp2_with (first
                    | ((with_reducible refine Rg.plan_pure ?_ ?_ ?_); kernel_rfl; kernel_rfl; intro _ _)
                    | ((with_reducible refine Rg.plan_take ?_ ?_ ?_); kernel_rfl; kernel_rfl; intro _ _)
                    | ((with_reducible refine Rg.plan_keep ?_ ?_); kernel_rfl; intro K hK)
                    | (refine hK _ _ (Rg.Keep.refl _) ?_; clear hK)
                    | (refine hK _ _ (Rg.Keep.of_below (by assumption)) ?_; clear hK)
                    | ((with_reducible refine Rg.plan_skip ?_ ?_); kernel_rfl)
                    | (with_reducible refine Rg.plan_done ?_)
                    | (with_reducible refine Rg.calm_normal ?_))
                  refine (awake_any _).mono ?_
                  rintro e wc3 ⟨rfl, hA⟩
                  refine hK _ _ (Rg.Keep.of_below hA) ?_
                  clear hK
                  have zc3 := hA.size
                  try simp at zc3
                  have rc3_0 : row? wc3 (w.heap.size) = some (bvs (h)) := by rw [row?_below hA (by first | omega | (simp; done) | (simp; omega))]; exact rc2_0
                  have rc3_1 : row? wc3 (BR) = some (bvs (RR)) := by rw [row?_below hA (by first | omega | (simp; done) | (simp; omega))]; exact rc2_1
                  have rc3_2 : row? wc3 (wZ.heap.size) = some (bvs (RR)) := by rw [row?_below hA (by first | omega | (simp; done) | (simp; omega))]; exact rc2_2
                  have rc3_3 : row? wc3 (wZ.heap.size + 1) = some (bvs (XY)) := by rw [row?_below hA (by first | omega | (simp; done) | (simp; omega))]; exact rc2_3
                  have rc3_4 : row? wc3 (BU) = some (bvs (UV)) := by rw [row?_below hA (by first | omega | (simp; done) | (simp; omega))]; exact rc2_4
                  have bc3 : Below w.heap.size w wc3 := bc2.trans (hA.mono (by first | omega | (simp; done) | (simp; omega)))
                  clear hA rc2_0 rc2_1 rc2_2 rc2_3 rc2_4
                  go_wp2_with (first
                    | ((with_reducible refine Rg.plan_pure ?_ ?_ ?_); kernel_rfl; kernel_rfl; intro _ _)
                    | ((with_reducible refine Rg.plan_take ?_ ?_ ?_); kernel_rfl; kernel_rfl; intro _ _)
                    | ((with_reducible refine Rg.plan_keep ?_ ?_); kernel_rfl; intro K hK)
                    | (refine hK _ _ (Rg.Keep.refl _) ?_; clear hK)
                    | (refine hK _ _ (Rg.Keep.of_below (by assumption)) ?_; clear hK)
                    | ((with_reducible refine Rg.plan_skip ?_ ?_); kernel_rfl)
                    | (with_reducible refine Rg.plan_done ?_)
                    | (with_reducible refine Rg.calm_normal ?_))
                  go_ret
                  exact ⟨rfl, bc3⟩
    · skip
      go_enter Try.func8, Try.ntmps8
      go_wp2_with (go_at_call 9; refine (awake_any _).mono ?_; rintro e w' ⟨rfl, hb⟩)
      go_ret
      exact ⟨rfl, (bel3 w _ _ _).trans (hb.mono (by simp; omega))⟩
namespace gcmAddsP
theorem own : ownKnob Try.prog.godebug = none := by kernel_rfl
theorem laidOut : laidOutB Try.prog = true := by kernel_rfl
theorem readable : (Try.f8.params.toList.all fun t => Try.prog.readableRec t && decide (t < Try.prog.types.size)) = true := by kernel_rfl
theorem contract (H : Type) (enc : TypeId × Value → H) (W : World) (base : Nat) (args : Array Value) (ds gs : List (DataW H)) (before : List MemPlace)
    (hval : ∀ (j : Nat) t v, Try.f8.params[j]? = some t → args[j]? = some v → Value.okWide Try.prog W .any base t v)
    (hW : DataW.Whole enc Try.prog Try.f8.params.toList Rows.gcmAddsSpec.vars false W args.toList ds gs before) :
    Calls Try.prog 8 args W fun e W' => ∃ v, e = .returned v ∧ Rows.gcmAddsSpec.post enc Try.prog Try.f8 false true false false W args v W' := by
  have hW' := hW
  obtain ⟨p, q, hA0, hV, rfl, hfz, hnd⟩ := hW
  have hA : DataW.TrodAll enc Try.prog W 0 (fun _ => true) true Try.f8.params.toList args.toList ds p := hA0
  rw [Try.params8] at hA hval
  obtain ⟨v0, vs0, d0, ds0, p0, q0, hargs, rfl, rfl, h0, r0⟩ := trodAll_cons hA
  obtain ⟨v1, vs1, d1, ds1, p1, q1, rfl, rfl, rfl, h1, r1⟩ := trodAll_cons r0
  obtain ⟨v2, vs2, d2, ds2, p2, q2, rfl, rfl, rfl, h2, r2⟩ := trodAll_cons r1
  obtain ⟨v3, vs3, d3, ds3, p3, q3, rfl, rfl, rfl, h3, r3⟩ := trodAll_cons r2
  obtain ⟨v4, vs4, d4, ds4, p4, q4, rfl, rfl, rfl, h4, r4⟩ := trodAll_cons r3
  obtain ⟨rfl, rfl, rfl⟩ := trodAll_nil r4
  obtain rfl : args = #[v0, v1, v2, v3, v4] := by cases args; simp_all
  obtain ⟨h, h_h, rfl⟩ := Law.open_bytes Try.underlying22 (by kernel_rfl) ⟨List.replicate 16 5, by kernel_rfl, by kernel_rfl⟩ Try.underlying5 (hval 0 22 v0 rfl rfl)
  obtain ⟨x, h_x, rfl⟩ := Law.open_bytes Try.underlying22 (by kernel_rfl) ⟨List.replicate 16 5, by kernel_rfl, by kernel_rfl⟩ Try.underlying5 (hval 1 22 v1 rfl rfl)
  obtain ⟨y, h_y, rfl⟩ := Law.open_bytes Try.underlying22 (by kernel_rfl) ⟨List.replicate 16 5, by kernel_rfl, by kernel_rfl⟩ Try.underlying5 (hval 2 22 v2 rfl rfl)
  obtain ⟨a, h_a⟩ := Law.open_slice Try.underlying24 Try.underlying5 (by kernel_rfl) (hval 3 24 v3 rfl rfl) h3
  obtain ⟨b, h_b⟩ := Law.open_slice Try.underlying24 Try.underlying5 (by kernel_rfl) (hval 4 24 v4 rfl rfl) h4
  refine (addsLaw_any h x y a b h_h h_x h_y v3 v4 W h_a h_b).mono fun e W' ⟨he, hb⟩ => ?_
  subst he
  exact ⟨_, rfl, Law.post_of_law laidOut readable hW' rfl hb rfl Try.underlying4 rfl rfl rfl⟩
set_option maxRecDepth 100000 in
theorem lifted (os : Os) (started : os.Started) (H : Type) (enc : TypeId × Value → H) :
    ReturnsInHanded {} Try.checked os 8 .any (Rows.gcmAddsSpec.pre6 enc Try.prog Try.f8 Rows.gcmAddsRow.domain false) (Rows.gcmAddsSpec.post enc Try.prog Try.f8 false true false false) := by
  refine returnsInHanded_of_change (C := Try.checked) own started (by kernel_rfl) Try.func8
    (ChangeSpec.witness6 (enc := enc) (C := Try.checked) false ⟨#[], #[.agg #[.int .u8 0, .int .u8 0, .int .u8 0, .int .u8 0, .int .u8 0, .int .u8 0, .int .u8 0, .int .u8 0, .int .u8 0, .int .u8 0, .int .u8 0, .int .u8 0, .int .u8 0, .int .u8 0, .int .u8 0, .int .u8 0], .agg #[.int .u8 0, .int .u8 0, .int .u8 0, .int .u8 0, .int .u8 0, .int .u8 0, .int .u8 0, .int .u8 0, .int .u8 0, .int .u8 0, .int .u8 0, .int .u8 0, .int .u8 0, .int .u8 0, .int .u8 0, .int .u8 0], .agg #[.int .u8 0, .int .u8 0, .int .u8 0, .int .u8 0, .int .u8 0, .int .u8 0, .int .u8 0, .int .u8 0, .int .u8 0, .int .u8 0, .int .u8 0, .int .u8 0, .int .u8 0, .int .u8 0, .int .u8 0, .int .u8 0], .slice none 0 0, .slice none 0 0], []⟩ 8 (by kernel_rfl) (by kernel_rfl) (by kernel_rfl) (by kernel_rfl)) ?_
  intro W base args ds gs before hval hW _ _
  exact contract H enc W base args ds gs before hval hW
theorem said : Rows.GcmAddsSaid :=
  OpenClaim.holds_of_wide 8 Try.f8 rfl rfl rfl rfl rfl rfl rfl ⟨rfl, rfl, rfl, rfl, rfl⟩ rfl rfl rfl rfl rfl (by kernel_rfl) Try.func8 (by kernel_rfl)
    (of_decide_eq_true (by kernel_rfl)) (by unfold Func.isWrapper; first | (rw [if_pos (by decide +kernel)]; kernel_rfl) | (rw [if_neg (by decide +kernel)]; exact ⟨rfl, rfl⟩))
    (fun os started H enc _ => lifted os started H enc)
end gcmAddsP
end Go.Proofs.Ytdfblojnkchpdaa
