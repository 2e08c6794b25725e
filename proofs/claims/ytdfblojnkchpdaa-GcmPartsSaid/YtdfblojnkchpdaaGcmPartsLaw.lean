/- The statement GcmParts holds: what is sealed opens again; sealed short of its tag it does not, or by its own last bytes; and nothing under sixteen bytes opens. No condition. -/
import Derived.Test.YtdfblojnkchpdaaGcmL1
import Derived.Test.YtdfblojnkchpdaaLawS
import Derived.Test.YtdfblojnkchpdaaLibE
import Derived.Test.YtdfblojnkchpdaaLibG
import Derived.RegionTactic
import Derived.BigRegion
namespace Go.Rg
open Go Go.RowKit Go.Rw
theorem exec_appendP {P : Program} {o : Oper} {a : Act} {w : World} {K : Act → World → Prop} {t e : TypeId} {i : TypeInfo} (x : Operand) (ho : o.op = .call { callee := .builtin .append, args := #[.const (.slice none 0 0), x], argTypes := #[t, t] })
    (ht : P.underlying t = some (.slice e)) (hi : P.info? e = some i) (hz : i.zero = some (.int .u8 0)) (hsz : i.size = 1) (hby : i.bytes = 1) {v : Value} {l : List UInt8} (hx : a.eval x = v) (hs : Sl w v l) (hl : l.length ≤ 1000000)
    (h : ∀ v' w', w'.ownsRow w.heap.size e 1 v' l.length (l.map bv) → Below w.heap.size w w' → K (a.put o.dst v') w') : o.wp P a w K NoQ := by
  obtain ⟨ao, cap, rfl, hc, hnn, hp⟩ := hs
  cases ao with
  | none =>
    obtain rfl := hnn rfl
    obtain rfl : l = [] := List.eq_nil_of_length_eq_zero (by omega)
    have hrun := run_append_owned_none (P := P) (w := w) w.heap.size t o.type e i 1 ht hi (.slice none 0 0) 0 [] (World.ownsRow_nil _ _ _ _)
    refine exec_value (v := .slice none 0 0) (w' := w) ?_ (h _ _ (World.ownsRow_nil _ _ _ _) (Below.refl _ _))
    have hx' : a.eval x = .slice none 0 0 := hx
    have hc' : a.eval (.const (.slice none 0 0)) = .slice none 0 0 := rfl
    simp [execOp, ho, resolve, invoke, builtin, hx', hc', hrun, Result.andThen]
  | some ad =>
    refine wp_append_own w (.const (.slice none 0 0)) x t ho w.heap.size e i (.int .u8 0) 1 1 ht hi hz hsz hby rfl (by decide) (.slice none 0 0) 0 [] rfl (World.ownsRow_nil _ _ _ _) ad l.length cap (l.map bv) hx (by simp) ?_ (map_bv_one _) (by unfold maxLen; omega) (by omega) (Nat.le_refl _) ?_
    · intro j u hj
      have hjl : j < l.length := by have := (List.getElem?_eq_some_iff.1 hj).1; simpa using this
      obtain ⟨b, off, e, hcell⟩ := hp (by omega)
      cases e
      rw [Addr.add_lit, hcell j hjl, ← hj]
      simp [nth, bv, n8, hjl]
    · intro v' w' h1 h2 _
      rw [Nat.zero_add, List.nil_append] at h1
      exact h v' w' h1 ((Below.refl _ _).grown h2 (Nat.le_refl _) (by intro k hk; cases hk))
theorem exec_pure {P : Program} {o : Oper} {a : Act} {w : World} {v : Value} {K : Act → World → Prop} (ho : execOp a.eval o = pure (.value v)) (h : K (a.put o.dst v) w) : o.wp P a w K NoQ := by
  refine exec_value (v := v) (w' := w) ?_ h
  rw [ho]; rfl
theorem exec_sem {P : Program} {o : Oper} {a : Act} {w w' : World} {v : Value} {s : Sem Value} {K : Act → World → Prop} (ho : execOp a.eval o = (do pure (.value (← s)))) (hs : s.run P w = .ok v w') (h : K (a.put o.dst v) w') : o.wp P a w K NoQ := by
  refine exec_value (v := v) (w' := w') ?_ h
  rw [ho]; simp [hs, Result.andThen]
theorem exec_fun {P : Program} {o : Oper} {a : Act} {w : World} {K : Act → World → Prop} {f : FuncId} {xs : Array Operand} {ts : Array TypeId} {args : Array Value} {post : Ending → World → Prop} (hcf : ∀ args w, (callFunc f args).run P w = .ok (.enter f args) w) (ho : o.op = .call { callee := .value (.func f), args := xs, argTypes := ts }) (hx : xs.map a.eval = args) (hc : Calls P f args w post)
    (h : ∀ e w', post e w' → ∃ v, e = .returned v ∧ K (a.put o.dst v) w') : o.wp P a w K NoQ := by
  refine exec_call (args := args) ?_ hc h
  subst hx
  simp [go_sem, execOp, ho, hcf]
theorem exec_len {P : Program} {o : Oper} {a : Act} {w : World} {K : Act → World → Prop} {x : Operand} {ts : Array TypeId} {v : Value} {n : Int} (ho : o.op = .call { callee := .builtin .len, args := #[x], argTypes := ts }) (ha : a.eval x = v) (hl : (Builtin.len_ ts o.type #[v]).run P w = .ok (.int .i64 n) w) (h : K (a.put o.dst (.int .i64 n)) w) : o.wp P a w K NoQ := by
  refine exec_value (v := .int .i64 n) (w' := w) ?_ h
  generalize a.eval = ρ at ha
  simp [go_sem, execOp, ho, ha, hl]
theorem exec_min {P : Program} {o : Oper} {a : Act} {w : World} {K : Act → World → Prop} {x : Operand} {ts : Array TypeId} {c n : Int} (ho : o.op = .call { callee := .builtin .min, args := #[.const (.int .i64 c), x], argTypes := ts }) (ha : a.eval x = .int .i64 n) (hn : c ≤ n) (h : K (a.put o.dst (.int .i64 c)) w) : o.wp P a w K NoQ := by
  refine exec_value (v := .int .i64 c) (w' := w) ?_ h
  have hc : a.eval (.const (.int .i64 c)) = .int .i64 c := rfl
  generalize a.eval = ρ at ha hc
  have : ¬ n < c := by omega
  simp [go_sem, execOp, ho, ha, hc, this]
theorem extract_0 (P : Program) (w : World) (u x : Value) : (Instr.extract (.tuple #[u, x]) 0).run P w = .ok u w := rfl
theorem extract_1 (P : Program) (w : World) (u x : Value) : (Instr.extract (.tuple #[u, x]) 1).run P w = .ok x w := rfl
theorem exec_extract {P : Program} {o : Oper} {a : Act} {w : World} {K : Act → World → Prop} {x : Operand} {ix : Nat} {xv v : Value} (ho : o.op = .extract x ix) (ha : a.eval x = xv) (hs : (Instr.extract xv ix).run P w = .ok v w) (h : K (a.put o.dst v) w) : o.wp P a w K NoQ := by
  refine exec_value (v := v) (w' := w) ?_ h
  generalize a.eval = ρ at ha
  simp [execOp, ho, ha, hs, Result.andThen]
theorem exec_load {P : Program} {o : Oper} {a : Act} {w : World} {K : Act → World → Prop} {x : Operand} {t : TypeId} {xv v : Value} (ho : o.op = .load t x) (ha : a.eval x = xv) (hs : (Instr.loadAt t xv).run P w = .ok v w) (h : K (a.put o.dst v) w) : o.wp P a w K NoQ := by
  refine exec_value (v := v) (w' := w) ?_ h
  generalize a.eval = ρ at ha
  simp [execOp, ho, ha, hs, Result.andThen]
theorem exec_slice {P : Program} {o : Oper} {a : Act} {w : World} {K : Act → World → Prop} {x y : Operand} {t : TypeId} {xv yv v : Value} (ho : o.op = .slice t x none (some y) none) (ha : a.eval x = xv) (hb : a.eval y = yv) (hs : (Instr.sliceAt t xv none (some yv) none).run P w = .ok v w) (h : K (a.put o.dst v) w) : o.wp P a w K NoQ := by
  refine exec_value (v := v) (w' := w) ?_ h
  generalize a.eval = ρ at ha hb
  simp [execOp, ho, ha, hb, hs, Result.andThen]
/-- What is appended to a slice of one's own. -/
theorem exec_append2 {P : Program} {o : Oper} {a : Act} {w : World} {K : Act → World → Prop} {t e : TypeId} {i : TypeInfo} (s x : Operand) (ho : o.op = .call { callee := .builtin .append, args := #[s, x], argTypes := #[t, t] })
    (ht : P.underlying t = some (.slice e)) (hi : P.info? e = some i) (hz : i.zero = some (.int .u8 0)) (hsz : i.size = 1) (hby : i.bytes = 1) {B : Nat} (hB : B ≤ w.heap.size) {v0 v : Value} {l0 : List UInt8} {b0 : UInt8} (h0 : a.eval s = v0) (hown : w.ownsRow B e 1 v0 l0.length (l0.map bv)) (hx : a.eval x = v) (hs : Sl w v [b0]) (hl : l0.length ≤ 1000000)
    (h : ∀ v' w', w'.ownsRow B e 1 v' (l0.length + 1) ((l0 ++ [b0]).map bv) → w.grownBy w' v0.ownBlock → K (a.put o.dst v') w') : o.wp P a w K NoQ := by
  obtain ⟨ao, cap, rfl, hc, hnn, hp⟩ := hs
  obtain ⟨b, off, rfl, hcell⟩ := hp (by simp)
  refine wp_append_own w s x t ho B e i (.int .u8 0) 1 1 ht hi hz hsz hby rfl (by decide) v0 l0.length (l0.map bv) h0 hown ⟨b, off, none⟩ 1 cap [bv b0] hx (by simp) ?_ (by intro u hu; simp at hu; subst hu; rfl) (by unfold maxLen; omega) (by omega) hB ?_
  · intro j u hj
    match j, hj with
    | 0, hj =>
      cases hj
      rw [Addr.add_lit, hcell 0 (by simp)]
      simp [nth, bv, n8]
  · intro v' w' h1 h2 _
    exact h v' w' (by rw [List.map_append]; exact h1) h2
end Go.Rg
namespace Go.Proofs.Ytdfblojnkchpdaa
open Go.RowKit Go.Rw Aes Gcm Go.ChangeShapes Go.WideShapes Go.ChangeAt
attribute [local go_sem ↓] ld12 ld16 st16 al16 shift_shl8 shift_shr8 bvs_getElem?
attribute [local go_sem] rld12 rld16 rst16 ral16 setRow_alloc_at setRow_alloc_past setRow_drew bvs_setn
theorem cfSeal (args : Array Value) (w : World) : (callFunc 10 args).run Try.prog w = .ok (.enter 10 args) w := by simp [go_sem]
theorem cfOpen (args : Array Value) (w : World) : (callFunc 13 args).run Try.prog w = .ok (.enter 13 args) w := by simp [go_sem]
theorem enc_enc (key nonce text : List UInt8) : enc key nonce (enc key nonce text) = text := by
  apply ext16 (n := text.length) (by rw [enc_length, enc_length]) rfl
  intro i hi
  have e1 : nth (enc key nonce (enc key nonce text)) i = encF key nonce (enc key nonce text) i := by simp [nth, enc, hi]
  have e2 : nth (enc key nonce text) i = encF key nonce text i := by simp [nth, enc, hi]
  rw [e1, encF, e2, encF, UInt8.xor_assoc, UInt8.xor_self, UInt8.xor_zero]
theorem open_sealed (key nonce text data : List UInt8) : opened key nonce (sealed key nonce text data) data = (0, text) := by
  have hl : (sealed key nonce text data).length = text.length + 16 := sealed_length _ _ _ _
  have e1 : (sealed key nonce text data).take text.length = enc key nonce text := by
    rw [sealed, List.take_append_of_le_length (by rw [enc_length]; exact Nat.le_refl _), List.take_of_length_le (by rw [enc_length]; exact Nat.le_refl _)]
  have e2 : (sealed key nonce text data).drop text.length = tag key nonce (enc key nonce text) data := by
    rw [sealed, List.drop_append, List.drop_eq_nil_of_le (by rw [enc_length]; exact Nat.le_refl _), enc_length, Nat.sub_self, List.drop_zero, List.nil_append]
  unfold opened
  rw [if_neg (by omega), show (sealed key nonce text data).length - 16 = text.length by omega, e1, e2, if_pos rfl, enc_enc]

theorem opened_short (key nonce s data : List UInt8) (h : s.length < 16) : opened key nonce s data = (3, []) := by unfold opened; rw [if_pos h]
theorem opened_len (key nonce s data : List UInt8) : (opened key nonce s data).1 ≠ 0 ∨ ((opened key nonce s data).2.length : Int) = (s.length : Int) - 16 := by
  unfold opened
  split
  · simp
  · split
    · right; rw [enc_length, List.length_take]; omega
    · simp
theorem opened_small (key nonce s data : List UInt8) : (opened key nonce s data).2.length ≤ s.length ∧ (opened key nonce s data).1 ≤ 7 := by
  unfold opened
  split
  · simp
  · split
    · simp only [enc_length, List.length_take]; omega
    · simp

set_option maxRecDepth 20000 in
set_option maxHeartbeats 8000000 in
theorem partsLaw_any (key nonce text data : List UInt8) (more : UInt8) (hk : key.length = 16) (hn : nonce.length = 12) (vt vd : Value) (w : World) (hst : Sl w vt text) (hsd : Sl w vd data) :
    Calls Try.prog 6 #[.agg (bvs key), .agg (bvs nonce), vt, vd, .int .u8 (n8 more : Nat)] w fun e w' => e = .returned (.bool true) ∧ Below w.heap.size w w' := by
  have hst0 := hst
  have hsd0 := hsd
  obtain ⟨ao, cap, rfl, hc, hnn, hp⟩ := hst0
  obtain ⟨ao2, cap2, rfl, hc2, hnn2, hp2⟩ := hsd0
  obtain ⟨i0, hi, hz0, hz1, hz2⟩ := info_parts info8
  clear hnn hnn2
  have early : ∀ e w', e = Ending.returned (.bool true) → Below ((w.alloc (.cells (bvs key) 22)).alloc (.cells (bvs nonce) 23)).heap.size ((w.alloc (.cells (bvs key) 22)).alloc (.cells (bvs nonce) 23)) w' → e = Ending.returned (.bool true) ∧ Below w.heap.size w w' :=
    fun e w' h hb => ⟨h, (bel2 w _ _).trans (hb.mono (by simp; omega))⟩
  by_cases h1 : text.length ≤ 60
  · by_cases h2 : data.length ≤ 60
    · skip
      go_enter Try.func6, Try.ntmps6
      clear early
      have hSl : (sealed key nonce text data).length = text.length + 16 := sealed_length _ _ _ _
      have hopS := open_sealed key nonce text data
      have hSE : sealed key nonce text data = sealed key nonce text data := rfl
      generalize hS : sealed key nonce text data = S at hSl hopS
      clear hSE
      have bA : Below w.heap.size w ((w.alloc (.cells (bvs key) 22)).alloc (.cells (bvs nonce) 23)).drew := (bel2 w _ _).drew
      have a0 : row? ((w.alloc (.cells (bvs key) 22)).alloc (.cells (bvs nonce) 23)).drew w.heap.size = some (bvs key) := by simp [go_sem]
      have a1 : row? ((w.alloc (.cells (bvs key) 22)).alloc (.cells (bvs nonce) 23)).drew (w.heap.size + 1) = some (bvs nonce) := by simp [go_sem]
      go_wp2_with fail
      refine Rg.wp_region_flo [(0, 0), (1, 0), (2, 3), (4, 3)] [
          ⟨3, 30, [], false, fun v w' => Sl w' v text⟩,
          ⟨5, 32, [3], false, fun v w' => Sl w' v data⟩,
          ⟨6, 33, [3, 5], false, fun v w' => ∃ g, v = .slice (some ⟨g, 0, none⟩) (text.length + 16) (text.length + 16) ∧ Sl w' v S⟩,
          ⟨7, 11, [3, 5, 6], false, fun v w' => ∃ g, v = .slice (some ⟨g, 0, none⟩) (text.length + 16) (text.length + 16) ∧ Sl w' v S⟩] [(3, 30, []), (5, 32, [3]), (6, 33, [3, 5]), (7, 11, [3, 5, 6])] [] (by kernel_rfl) (by kernel_rfl) rfl ?_
      simp only [Rg.row, Rg.PT.map, List.getD_cons_zero, List.getD_cons_succ]
      go_wp2_with (first
        | ((with_reducible refine Rg.plan_pure ?_ ?_ ?_); kernel_rfl; kernel_rfl; intro _ _)
        | ((with_reducible refine Rg.plan_take ?_ ?_ ?_); kernel_rfl; kernel_rfl; intro _ _)
        | ((with_reducible refine Rg.plan_keep ?_ ?_); kernel_rfl; intro K hK)
        | (refine hK _ _ (Rg.Keep.refl _) ?_; clear hK)
        | (refine hK _ _ (Rg.Keep.of_below (by assumption)) ?_; clear hK)
        | ((with_reducible refine Rg.plan_skip ?_ ?_); kernel_rfl)
        | (with_reducible refine Rg.plan_done ?_)
        | (with_reducible refine Rg.calm_normal ?_))
      refine Rg.phase_done (Rg.Phase.mk ?_ ?_ ?_)
      · refine List.forall_mem_cons.2 ⟨?_, List.forall_mem_cons.2 ⟨?_, List.forall_mem_cons.2 ⟨?_, List.forall_mem_cons.2 ⟨?_, fun r hr => (by cases hr)⟩⟩⟩⟩
        · exact fun v w1 w2 hb h => h.below hb
        · exact fun v w1 w2 hb h => h.below hb
        · rintro v w1 w2 hb ⟨g, e, h⟩; exact ⟨g, e, h.below hb⟩
        · rintro v w1 w2 hb ⟨g, e, h⟩; exact ⟨g, e, h.below hb⟩
      · refine List.forall_mem_cons.2 ⟨?_, List.forall_mem_cons.2 ⟨?_, List.forall_mem_cons.2 ⟨?_, List.forall_mem_cons.2 ⟨?_, fun r hr => (by cases hr)⟩⟩⟩⟩
        · intro us wx hbx hdep K hK
          refine Rg.exec_appendP (v := .slice ao text.length cap) _ rfl Try.underlying24 hi hz0 hz1 hz2 (by kernel_rfl) (hst.below (bA.trans (hbx.mono bA.size))) (by omega) (fun v' w' h1 h2 => hK _ _ _ rfl (Own.sl h1) h2 (fun h => (by cases h)))
        · intro us wx hbx hdep K hK
          refine Rg.exec_appendP (v := .slice ao2 data.length cap2) _ rfl Try.underlying24 hi hz0 hz1 hz2 (by kernel_rfl) (hsd.below (bA.trans (hbx.mono bA.size))) (by omega) (fun v' w' h1 h2 => hK _ _ _ rfl (Own.sl h1) h2 (fun h => (by cases h)))
        · intro us wx hbx hdep K hK
          have q1 : Sl wx (us 3) text := (List.forall_mem_cons.1 hdep).1 (by simp)
          have q2 : Sl wx (us 5) data := (List.forall_mem_cons.1 (List.forall_mem_cons.1 hdep).2).1 (by simp)
          refine Rg.exec_fun (args := #[.agg (bvs key), .agg (bvs nonce), us 3, us 5]) cfSeal rfl (by kernel_rfl) (seal_any key nonce text data hk hn (by omega) (by omega) _ _ _ q1 q2) ?_
          rintro e wy ⟨g, rfl, ho, hy⟩
          rw [hS, ← hSl] at ho
          exact ⟨_, rfl, hK _ _ _ rfl ⟨g, rfl, Own.sl (B := _) (e := 5) (by rw [hSl] at ho ⊢; exact ho)⟩ hy (fun h => (by cases h))⟩
        · intro us wx hbx hdep K hK
          have q : (fun v w' => ∃ g, v = .slice (some ⟨g, 0, none⟩) (text.length + 16) (text.length + 16) ∧ Sl w' v S) (us 6) wx := (List.forall_mem_cons.1 (List.forall_mem_cons.1 (List.forall_mem_cons.1 hdep).2).2).1 (by simp)
          exact Rg.exec_pure (v := us 6) (by kernel_rfl) (hK _ _ _ rfl q (Below.refl _ _) (fun h => (by cases h)))
      · intro us wB hbB hJ hfr hne; clear hfr hne
        simp only [List.forall_mem_cons] at hJ
        obtain ⟨-, -, -, ⟨g, e7, s7⟩, -⟩ := hJ
        simp only [Rg.puts, List.map_cons, List.map_nil]
        rw [e7] at s7
        simp only [e7]
        have bB : Below w.heap.size w wB := bA.trans (hbB.mono bA.size)
        have b0 : row? wB w.heap.size = some (bvs key) := Rg.stable_row hbB a0
        have b1 : row? wB (w.heap.size + 1) = some (bvs nonce) := Rg.stable_row hbB a1
        clear hbB a0 a1 bA e7
        generalize us 3 = u3
        generalize us 5 = u5
        generalize us 6 = u6
        clear us
        go_wp2_with (first
          | ((with_reducible refine Rg.plan_pure ?_ ?_ ?_); kernel_rfl; kernel_rfl; intro _ _)
          | ((with_reducible refine Rg.plan_take ?_ ?_ ?_); kernel_rfl; kernel_rfl; intro _ _)
          | ((with_reducible refine Rg.plan_keep ?_ ?_); kernel_rfl; intro K hK)
          | (refine hK _ _ (Rg.Keep.refl _) ?_; clear hK)
          | (refine hK _ _ (Rg.Keep.of_below (by assumption)) ?_; clear hK)
          | ((with_reducible refine Rg.plan_skip ?_ ?_); kernel_rfl)
          | (with_reducible refine Rg.plan_done ?_)
          | (with_reducible refine Rg.calm_normal ?_))
        have bB' : Below w.heap.size w wB.drew := bB.drew
        have b0' : row? wB.drew w.heap.size = some (bvs key) := (row?_drew _ _).trans b0
        have b1' : row? wB.drew (w.heap.size + 1) = some (bvs nonce) := (row?_drew _ _).trans b1
        have s7' : Sl wB.drew (.slice (some ⟨g, 0, none⟩) (text.length + 16) (text.length + 16)) S := s7.below (Below.refl _ _).drew
        refine Rg.wp_region_flo [(0, 0), (1, 0), (2, 3), (4, 3)] [
            ⟨3, 44, [], false, fun v w' => Sl w' v S⟩,
            ⟨5, 46, [3], false, fun v w' => Sl w' v data⟩,
            ⟨6, 47, [3, 5], false, fun v w' => ∃ u, v = .tuple #[u, .int .i64 0] ∧ Sl w' u text⟩,
            ⟨7, 40, [6], false, fun v w' => ∃ u, v = .tuple #[u, .int .i64 0] ∧ Sl w' u text⟩,
            ⟨8, 48, [7], false, fun v w' => Sl w' v text⟩,
            ⟨9, 49, [7], false, fun v _ => v = .int .i64 0⟩,
            ⟨10, 12, [3, 5, 6, 7, 8], false, fun v w' => Sl w' v text⟩,
            ⟨11, 13, [3, 5, 6, 7, 8, 9, 10], false, fun v _ => v = .int .i64 0⟩] [(3, 44, []), (5, 46, [3]), (6, 47, [3, 5]), (7, 40, [6]), (8, 48, [7]), (9, 49, [7]), (10, 12, [3, 5, 6, 7, 8]), (11, 13, [3, 5, 6, 7, 8, 9, 10])] [] (by kernel_rfl) (by kernel_rfl) rfl ?_
        simp only [Rg.row, Rg.PT.map, List.getD_cons_zero, List.getD_cons_succ]
        go_wp2_with (first
          | ((with_reducible refine Rg.plan_pure ?_ ?_ ?_); kernel_rfl; kernel_rfl; intro _ _)
          | ((with_reducible refine Rg.plan_take ?_ ?_ ?_); kernel_rfl; kernel_rfl; intro _ _)
          | ((with_reducible refine Rg.plan_keep ?_ ?_); kernel_rfl; intro K hK)
          | (refine hK _ _ (Rg.Keep.refl _) ?_; clear hK)
          | (refine hK _ _ (Rg.Keep.of_below (by assumption)) ?_; clear hK)
          | ((with_reducible refine Rg.plan_skip ?_ ?_); kernel_rfl)
          | (with_reducible refine Rg.plan_done ?_)
          | (with_reducible refine Rg.calm_normal ?_))
        refine Rg.phase_done (Rg.Phase.mk ?_ ?_ ?_)
        · refine List.forall_mem_cons.2 ⟨?_, List.forall_mem_cons.2 ⟨?_, List.forall_mem_cons.2 ⟨?_, List.forall_mem_cons.2 ⟨?_, List.forall_mem_cons.2 ⟨?_, List.forall_mem_cons.2 ⟨?_, List.forall_mem_cons.2 ⟨?_, List.forall_mem_cons.2 ⟨?_, fun r hr => (by cases hr)⟩⟩⟩⟩⟩⟩⟩⟩
          · exact fun v w1 w2 hb h => h.below hb
          · exact fun v w1 w2 hb h => h.below hb
          · rintro v w1 w2 hb ⟨u, e, h⟩; exact ⟨u, e, h.below hb⟩
          · rintro v w1 w2 hb ⟨u, e, h⟩; exact ⟨u, e, h.below hb⟩
          · exact fun v w1 w2 hb h => h.below hb
          · exact fun v w1 w2 _ h => h
          · exact fun v w1 w2 hb h => h.below hb
          · exact fun v w1 w2 _ h => h
        · refine List.forall_mem_cons.2 ⟨?_, List.forall_mem_cons.2 ⟨?_, List.forall_mem_cons.2 ⟨?_, List.forall_mem_cons.2 ⟨?_, List.forall_mem_cons.2 ⟨?_, List.forall_mem_cons.2 ⟨?_, List.forall_mem_cons.2 ⟨?_, List.forall_mem_cons.2 ⟨?_, fun r hr => (by cases hr)⟩⟩⟩⟩⟩⟩⟩⟩
          · intro us wx hbx hdep K hK
            refine Rg.exec_appendP (v := .slice (some ⟨g, 0, none⟩) (text.length + 16) (text.length + 16)) _ rfl Try.underlying24 hi hz0 hz1 hz2 (by kernel_rfl) (s7'.below hbx) (by omega) (fun v' w' h1 h2 => hK _ _ _ rfl (Own.sl h1) h2 (fun h => (by cases h)))
          · intro us wx hbx hdep K hK
            refine Rg.exec_appendP (v := .slice ao2 data.length cap2) _ rfl Try.underlying24 hi hz0 hz1 hz2 (by kernel_rfl) (hsd.below (bB'.trans (hbx.mono bB'.size))) (by omega) (fun v' w' h1 h2 => hK _ _ _ rfl (Own.sl h1) h2 (fun h => (by cases h)))
          · intro us wx hbx hdep K hK
            have q1 : Sl wx (us 3) S := (List.forall_mem_cons.1 hdep).1 (by simp)
            have q2 : Sl wx (us 5) data := (List.forall_mem_cons.1 (List.forall_mem_cons.1 hdep).2).1 (by simp)
            refine Rg.exec_fun (args := #[.agg (bvs key), .agg (bvs nonce), us 3, us 5]) cfOpen rfl (by kernel_rfl) (open_any key nonce S data hk hn (by omega) (by omega) _ _ _ q1 q2) ?_
            rintro e wy ⟨v, rfl, ho, hy⟩
            rw [hopS] at ho ⊢
            exact ⟨_, rfl, hK _ _ _ rfl ⟨v, rfl, Own.sl ho⟩ hy (fun h => (by cases h))⟩
          · intro us wx hbx hdep K hK
            have q : (fun v w' => ∃ u, v = .tuple #[u, .int .i64 0] ∧ Sl w' u text) (us 6) wx := (List.forall_mem_cons.1 (List.forall_mem_cons.1 (List.forall_mem_cons.1 hdep).2).2).1 (by simp)
            exact Rg.exec_pure (v := us 6) (by kernel_rfl) (hK _ _ _ rfl q (Below.refl _ _) (fun h => (by cases h)))
          · intro us wx hbx hdep K hK
            have q : (fun v w' => ∃ u, v = .tuple #[u, .int .i64 0] ∧ Sl w' u text) (us 7) wx := (List.forall_mem_cons.1 (List.forall_mem_cons.1 (List.forall_mem_cons.1 (List.forall_mem_cons.1 hdep).2).2).2).1 (by simp)
            with_reducible refine Exists.elim q fun u hu => Rg.exec_extract (x := .tmp 40) (ix := 0) (v := u) (xv := us 7) ?_ ?_ ?_ ?_
            · rfl
            · kernel_rfl
            · rw [hu.1]; exact Rg.extract_0 _ _ _ _
            · exact hK _ _ _ rfl hu.2 (Below.refl _ _) (fun h => (by cases h))
          · intro us wx hbx hdep K hK
            have q : (fun v w' => ∃ u, v = .tuple #[u, .int .i64 0] ∧ Sl w' u text) (us 7) wx := (List.forall_mem_cons.1 (List.forall_mem_cons.1 (List.forall_mem_cons.1 (List.forall_mem_cons.1 hdep).2).2).2).1 (by simp)
            with_reducible refine Exists.elim q fun u hu => Rg.exec_extract (x := .tmp 40) (ix := 1) (v := .int .i64 0) (xv := us 7) ?_ ?_ ?_ ?_
            · rfl
            · kernel_rfl
            · rw [hu.1]; exact Rg.extract_1 _ _ _ _
            · exact hK _ _ _ rfl rfl (Below.refl _ _) (fun h => (by cases h))
          · intro us wx hbx hdep K hK
            have q : Sl wx (us 8) text := (List.forall_mem_cons.1 (List.forall_mem_cons.1 (List.forall_mem_cons.1 (List.forall_mem_cons.1 (List.forall_mem_cons.1 hdep).2).2).2).2).1 (by simp)
            exact Rg.exec_pure (v := us 8) (by kernel_rfl) (hK _ _ _ rfl q (Below.refl _ _) (fun h => (by cases h)))
          · intro us wx hbx hdep K hK
            have q : us 9 = .int .i64 0 := (List.forall_mem_cons.1 (List.forall_mem_cons.1 (List.forall_mem_cons.1 (List.forall_mem_cons.1 (List.forall_mem_cons.1 (List.forall_mem_cons.1 hdep).2).2).2).2).2).1 (by simp)
            exact Rg.exec_pure (v := us 9) (by kernel_rfl) (hK _ _ _ rfl q (Below.refl _ _) (fun h => (by cases h)))
        · intro us wC hbC hJ hfr hne; clear hfr hne
          simp only [List.forall_mem_cons] at hJ
          obtain ⟨-, -, -, -, -, -, s10, e11, -⟩ := hJ
          simp only [Rg.puts, List.map_cons, List.map_nil]
          simp only [e11]
          have bC : Below w.heap.size w wC := bB'.trans (hbC.mono bB'.size)
          have c0 : row? wC w.heap.size = some (bvs key) := Rg.stable_row hbC b0'
          have c1 : row? wC (w.heap.size + 1) = some (bvs nonce) := Rg.stable_row hbC b1'
          have s7C := s7'.below hbC
          clear hbC b0 b1 b0' b1' bB bB' e11 s7 s7'
          generalize us 10 = va at *
          generalize us 3 = u3'
          generalize us 5 = u5'
          generalize us 6 = u6'
          generalize us 7 = u7'
          generalize us 8 = u8'
          generalize us 9 = u9'
          clear us
          have hcut := s7C.cut 0 text.length (by omega) (by omega)
          rw [List.drop_zero, Nat.sub_zero, Nat.sub_zero] at hcut
          have hcutA : ∀ W, (Instr.sliceAt 24 (.slice (some ⟨g, 0, none⟩) (text.length + 16) (text.length + 16)) none (some (.int .i64 ((text.length : Nat) : Int))) none).run Try.prog W = .ok (.slice (cutA (some ⟨g, 0, none⟩) 0 (text.length + 16)) text.length (text.length + 16)) W := fun W => by
            rw [cut_h TB W _ _ _ _ _ (by omega) (by omega)]; rfl
          generalize cutA (some ⟨g, 0, none⟩) 0 (text.length + 16) = aC at hcut hcutA
          have hTl : (S.take text.length).length = text.length := by rw [List.length_take]; omega
          generalize S.take text.length = T1 at hcut hTl
          have hOl := opened_len key nonce T1 []
          have hOs := opened_small key nonce T1 []
          generalize hOO : opened key nonce T1 [] = OO at hOl hOs
          go_wp2_with (first
            | ((with_reducible refine Rg.plan_pure ?_ ?_ ?_); kernel_rfl; kernel_rfl; intro _ _)
            | ((with_reducible refine Rg.plan_take ?_ ?_ ?_); kernel_rfl; kernel_rfl; intro _ _)
            | ((with_reducible refine Rg.plan_keep ?_ ?_); kernel_rfl; intro K hK)
            | (refine hK _ _ (Rg.Keep.refl _) ?_; clear hK)
            | (refine hK _ _ (Rg.Keep.of_below (by assumption)) ?_; clear hK)
            | ((with_reducible refine Rg.plan_skip ?_ ?_); kernel_rfl)
            | (with_reducible refine Rg.plan_done ?_)
            | (with_reducible refine Rg.calm_normal ?_))
          have bC' : Below w.heap.size w wC.drew := bC.drew
          have c0' : row? wC.drew w.heap.size = some (bvs key) := (row?_drew _ _).trans c0
          have c1' : row? wC.drew (w.heap.size + 1) = some (bvs nonce) := (row?_drew _ _).trans c1
          have s7C' : Sl wC.drew (.slice (some ⟨g, 0, none⟩) (text.length + 16) (text.length + 16)) S := s7C.below (Below.refl _ _).drew
          have hcut' : Sl wC.drew (.slice aC text.length (text.length + 16)) T1 := hcut.below (Below.refl _ _).drew
          have s10' : Sl wC.drew va text := s10.below (Below.refl _ _).drew
          refine Rg.wp_region_flo [(0, 0), (1, 0), (2, 3), (3, 3), (4, 0), (5, 3)] [
              ⟨6, 57, [], false, fun v w' => Sl w' v T1⟩,
              ⟨7, 58, [6], false, fun v w' => ∃ u, v = .tuple #[u, .int .i64 (OO.1 : Nat)] ∧ Sl w' u OO.2⟩,
              ⟨8, 50, [7], false, fun v w' => ∃ u, v = .tuple #[u, .int .i64 (OO.1 : Nat)] ∧ Sl w' u OO.2⟩,
              ⟨9, 59, [8], false, fun v w' => Sl w' v OO.2⟩,
              ⟨10, 60, [8], false, fun v _ => v = .int .i64 (OO.1 : Nat)⟩,
              ⟨11, 14, [6, 7, 8, 9], false, fun v w' => Sl w' v OO.2⟩,
              ⟨12, 15, [6, 7, 8, 9, 10, 11], false, fun v _ => v = .int .i64 (OO.1 : Nat)⟩] [(6, 57, []), (7, 58, [6]), (8, 50, [7]), (9, 59, [8]), (10, 60, [8]), (11, 14, [6, 7, 8, 9]), (12, 15, [6, 7, 8, 9, 10, 11])] [] (by kernel_rfl) (by kernel_rfl) rfl ?_
          simp only [Rg.row, Rg.PT.map, List.getD_cons_zero, List.getD_cons_succ]
          go_wp2_with (first
            | ((with_reducible refine Rg.plan_pure ?_ ?_ ?_); kernel_rfl; kernel_rfl; intro _ _)
            | ((with_reducible refine Rg.plan_take ?_ ?_ ?_); kernel_rfl; kernel_rfl; intro _ _)
            | ((with_reducible refine Rg.plan_keep ?_ ?_); kernel_rfl; intro K hK)
            | (refine hK _ _ (Rg.Keep.refl _) ?_; clear hK)
            | (refine hK _ _ (Rg.Keep.of_below (by assumption)) ?_; clear hK)
            | ((with_reducible refine Rg.plan_skip ?_ ?_); kernel_rfl)
            | (with_reducible refine Rg.plan_done ?_)
            | (with_reducible refine Rg.calm_normal ?_))
          refine Rg.phase_done (Rg.Phase.mk ?_ ?_ ?_)
          · refine List.forall_mem_cons.2 ⟨?_, List.forall_mem_cons.2 ⟨?_, List.forall_mem_cons.2 ⟨?_, List.forall_mem_cons.2 ⟨?_, List.forall_mem_cons.2 ⟨?_, List.forall_mem_cons.2 ⟨?_, List.forall_mem_cons.2 ⟨?_, fun r hr => (by cases hr)⟩⟩⟩⟩⟩⟩⟩
            · exact fun v w1 w2 hb h => h.below hb
            · rintro v w1 w2 hb ⟨u, e, h⟩; exact ⟨u, e, h.below hb⟩
            · rintro v w1 w2 hb ⟨u, e, h⟩; exact ⟨u, e, h.below hb⟩
            · exact fun v w1 w2 hb h => h.below hb
            · exact fun v w1 w2 _ h => h
            · exact fun v w1 w2 hb h => h.below hb
            · exact fun v w1 w2 _ h => h
          · refine List.forall_mem_cons.2 ⟨?_, List.forall_mem_cons.2 ⟨?_, List.forall_mem_cons.2 ⟨?_, List.forall_mem_cons.2 ⟨?_, List.forall_mem_cons.2 ⟨?_, List.forall_mem_cons.2 ⟨?_, List.forall_mem_cons.2 ⟨?_, fun r hr => (by cases hr)⟩⟩⟩⟩⟩⟩⟩
            · intro us wx hbx hdep K hK
              refine Rg.exec_appendP (v := .slice aC text.length (text.length + 16)) _ rfl Try.underlying24 hi hz0 hz1 hz2 (by kernel_rfl) (hcut'.below hbx) (by omega) (fun v' w' h1 h2 => hK _ _ _ rfl (Own.sl h1) h2 (fun h => (by cases h)))
            · intro us wx hbx hdep K hK
              have q1 : Sl wx (us 6) T1 := (List.forall_mem_cons.1 hdep).1 (by simp)
              refine Rg.exec_fun (args := #[.agg (bvs key), .agg (bvs nonce), us 6, .slice none 0 0]) cfOpen rfl (by kernel_rfl) (open_any key nonce T1 [] hk hn (by omega) (by simp) _ _ _ q1 (Sl.nil _)) ?_
              rintro e wy ⟨v, rfl, ho, hy⟩
              rw [hOO] at ho ⊢
              exact ⟨_, rfl, hK _ _ _ rfl ⟨v, rfl, Own.sl ho⟩ hy (fun h => (by cases h))⟩
            · intro us wx hbx hdep K hK
              have q : (fun v w' => ∃ u, v = .tuple #[u, .int .i64 (OO.1 : Nat)] ∧ Sl w' u OO.2) (us 7) wx := (List.forall_mem_cons.1 (List.forall_mem_cons.1 hdep).2).1 (by simp)
              exact Rg.exec_pure (v := us 7) (by kernel_rfl) (hK _ _ _ rfl q (Below.refl _ _) (fun h => (by cases h)))
            · intro us wx hbx hdep K hK
              have q : (fun v w' => ∃ u, v = .tuple #[u, .int .i64 (OO.1 : Nat)] ∧ Sl w' u OO.2) (us 8) wx := (List.forall_mem_cons.1 (List.forall_mem_cons.1 (List.forall_mem_cons.1 hdep).2).2).1 (by simp)
              with_reducible refine Exists.elim q fun u hu => Rg.exec_extract (x := .tmp 50) (ix := 0) (v := u) (xv := us 8) ?_ ?_ ?_ ?_
              · rfl
              · kernel_rfl
              · rw [hu.1]; exact Rg.extract_0 _ _ _ _
              · exact hK _ _ _ rfl hu.2 (Below.refl _ _) (fun h => (by cases h))
            · intro us wx hbx hdep K hK
              have q : (fun v w' => ∃ u, v = .tuple #[u, .int .i64 (OO.1 : Nat)] ∧ Sl w' u OO.2) (us 8) wx := (List.forall_mem_cons.1 (List.forall_mem_cons.1 (List.forall_mem_cons.1 hdep).2).2).1 (by simp)
              with_reducible refine Exists.elim q fun u hu => Rg.exec_extract (x := .tmp 50) (ix := 1) (v := .int .i64 (OO.1 : Nat)) (xv := us 8) ?_ ?_ ?_ ?_
              · rfl
              · kernel_rfl
              · rw [hu.1]; exact Rg.extract_1 _ _ _ _
              · exact hK _ _ _ rfl rfl (Below.refl _ _) (fun h => (by cases h))
            · intro us wx hbx hdep K hK
              have q : Sl wx (us 9) OO.2 := (List.forall_mem_cons.1 (List.forall_mem_cons.1 (List.forall_mem_cons.1 (List.forall_mem_cons.1 hdep).2).2).2).1 (by simp)
              exact Rg.exec_pure (v := us 9) (by kernel_rfl) (hK _ _ _ rfl q (Below.refl _ _) (fun h => (by cases h)))
            · intro us wx hbx hdep K hK
              have q : us 10 = .int .i64 (OO.1 : Nat) := (List.forall_mem_cons.1 (List.forall_mem_cons.1 (List.forall_mem_cons.1 (List.forall_mem_cons.1 (List.forall_mem_cons.1 hdep).2).2).2).2).1 (by simp)
              exact Rg.exec_pure (v := us 10) (by kernel_rfl) (hK _ _ _ rfl q (Below.refl _ _) (fun h => (by cases h)))
          · intro us wD hbD hJ hfr hne; clear hfr hne
            simp only [List.forall_mem_cons] at hJ
            obtain ⟨-, -, -, -, -, s11, e12, -⟩ := hJ
            simp only [Rg.puts, List.map_cons, List.map_nil]
            simp only [e12]
            have bD : Below w.heap.size w wD := bC'.trans (hbD.mono bC'.size)
            have d0 : row? wD w.heap.size = some (bvs key) := Rg.stable_row hbD c0'
            have d1 : row? wD (w.heap.size + 1) = some (bvs nonce) := Rg.stable_row hbD c1'
            have s7D := s7C'.below hbD
            have s10D := s10'.below hbD
            clear hbD c0 c1 c0' c1' bC bC' e12 s7C s7C' s10 s10' hcut hcut' hcutA
            generalize us 11 = vl at *
            generalize us 6 = x6
            generalize us 7 = x7
            generalize us 8 = x8
            generalize us 9 = x9
            generalize us 10 = x10
            clear us
            obtain ⟨aoL, capL, rfl, -, -, -⟩ := s11
            go_wp2_with (first
              | ((with_reducible refine Rg.plan_pure ?_ ?_ ?_); kernel_rfl; kernel_rfl; intro _ _)
              | ((with_reducible refine Rg.plan_take ?_ ?_ ?_); kernel_rfl; kernel_rfl; intro _ _)
              | ((with_reducible refine Rg.plan_keep ?_ ?_); kernel_rfl; intro K hK)
              | (refine hK _ _ (Rg.Keep.refl _) ?_; clear hK)
              | (refine hK _ _ (Rg.Keep.of_below (by assumption)) ?_; clear hK)
              | ((with_reducible refine Rg.plan_skip ?_ ?_); kernel_rfl)
              | (with_reducible refine Rg.plan_done ?_)
              | (with_reducible refine Rg.calm_normal ?_))
            have bD' : Below w.heap.size w wD.drew := bD.drew
            have d0' : row? wD.drew w.heap.size = some (bvs key) := (row?_drew _ _).trans d0
            have d1' : row? wD.drew (w.heap.size + 1) = some (bvs nonce) := (row?_drew _ _).trans d1
            have s7D' : Sl wD.drew (.slice (some ⟨g, 0, none⟩) (text.length + 16) (text.length + 16)) S := s7D.below (Below.refl _ _).drew
            have s10D' : Sl wD.drew va text := s10D.below (Below.refl _ _).drew
            refine Rg.wp_region_inv [(2, 3), (4, 3), (7, 3)] [⟨0, 62, [], false, fun _ _ => True⟩, ⟨1, 63, [], false, fun _ _ => True⟩, ⟨3, 65, [], false, fun _ _ => True⟩, ⟨5, 67, [], false, fun _ _ => True⟩, ⟨6, 68, [3, 5], false, fun _ _ => True⟩, ⟨8, 70, [], false, fun _ _ => True⟩, ⟨9, 71, [8], false, fun _ _ => True⟩, ⟨10, 72, [6, 9], false, fun _ _ => True⟩, ⟨11, 73, [0, 1, 6, 10], false, fun _ _ => True⟩, ⟨12, 61, [11], false, fun _ _ => True⟩, ⟨13, 74, [12], false, fun _ _ => True⟩, ⟨14, 75, [12], false, fun _ _ => True⟩, ⟨15, 16, [0, 1, 3, 5, 6, 8, 9, 10, 11, 12, 13], false, fun _ _ => True⟩, ⟨16, 17, [0, 1, 3, 5, 6, 8, 9, 10, 11, 12, 13, 14, 15], false, fun _ _ => True⟩] [(0, 62, []), (1, 63, []), (3, 65, []), (5, 67, []), (6, 68, [3, 5]), (8, 70, []), (9, 71, [8]), (10, 72, [6, 9]), (11, 73, [0, 1, 6, 10]), (12, 61, [11]), (13, 74, [12]), (14, 75, [12]), (15, 16, [0, 1, 3, 5, 6, 8, 9, 10, 11, 12, 13]), (16, 17, [0, 1, 3, 5, 6, 8, 9, 10, 11, 12, 13, 14, 15])] [6] [] (by kernel_rfl) (by kernel_rfl) rfl (by kernel_rfl) ?_
            simp only [Rg.row, Rg.PT.map, List.getD_cons_zero, List.getD_cons_succ]
            go_wp2_with (first
              | ((with_reducible refine Rg.plan_pure ?_ ?_ ?_); kernel_rfl; kernel_rfl; intro _ _)
              | ((with_reducible refine Rg.plan_take ?_ ?_ ?_); kernel_rfl; kernel_rfl; intro _ _)
              | ((with_reducible refine Rg.plan_keep ?_ ?_); kernel_rfl; intro K hK)
              | (refine hK _ _ (Rg.Keep.refl _) ?_; clear hK)
              | (refine hK _ _ (Rg.Keep.of_below (by assumption)) ?_; clear hK)
              | ((with_reducible refine Rg.plan_skip ?_ ?_); kernel_rfl)
              | (with_reducible refine Rg.plan_done ?_)
              | (with_reducible refine Rg.calm_normal ?_))
            refine Rg.phaseI_done (fun L us w' => Below wD.drew.heap.size wD.drew w' ∧ (L 0 = true → us 0 = .agg (bvs key)) ∧ (L 1 = true → us 1 = .agg (bvs nonce))
                ∧ (L 3 = true → L 6 = false → w'.ownsRow wD.drew.heap.size 5 1 (us 3) S.length (S.map bv)) ∧ (L 5 = true → L 6 = false → Sl w' (us 5) [more])
                ∧ (L 6 = true → w'.ownsRow wD.drew.heap.size 5 1 (us 6) (S.length + 1) ((S ++ [more]).map bv)) ∧ (L 8 = true → us 8 = .int .i64 (text.length + 16 : Nat)) ∧ (L 9 = true → us 9 = .int .i64 15) ∧ (L 10 = true → L 6 = true ∧ Sl w' (us 10) ((S ++ [more]).take 15)) ∧ (L 11 = true → ∃ u, us 11 = .tuple #[u, .int .i64 3]) ∧ (L 12 = true → ∃ u, us 12 = .tuple #[u, .int .i64 3]) ∧ (L 14 = true → us 14 = .int .i64 3) ∧ (L 16 = true → us 16 = .int .i64 3)) (Rg.PhaseI.mk ?_ ?_ ?_)
            · intro us
              exact ⟨Below.refl _ _, by simp⟩
            · refine List.forall_mem_cons.2 ⟨?_, List.forall_mem_cons.2 ⟨?_, List.forall_mem_cons.2 ⟨?_, List.forall_mem_cons.2 ⟨?_, List.forall_mem_cons.2 ⟨?_, List.forall_mem_cons.2 ⟨?_, List.forall_mem_cons.2 ⟨?_, List.forall_mem_cons.2 ⟨?_, List.forall_mem_cons.2 ⟨?_, List.forall_mem_cons.2 ⟨?_, List.forall_mem_cons.2 ⟨?_, List.forall_mem_cons.2 ⟨?_, List.forall_mem_cons.2 ⟨?_, List.forall_mem_cons.2 ⟨?_, fun r hr => (by cases hr)⟩⟩⟩⟩⟩⟩⟩⟩⟩⟩⟩⟩⟩⟩
              · intro L us wx hnot hdep hI K hK
                have hb := hI.1
                have i0' := hI.2.1
                have i1 := hI.2.2.1
                have i3 := hI.2.2.2.1
                have i5 := hI.2.2.2.2.1
                have i6 := hI.2.2.2.2.2.1
                have i8 := hI.2.2.2.2.2.2.1
                have i9 := hI.2.2.2.2.2.2.2.1
                have i10 := hI.2.2.2.2.2.2.2.2.1
                have i11 := hI.2.2.2.2.2.2.2.2.2.1
                have i12 := hI.2.2.2.2.2.2.2.2.2.2.1
                have i14 := hI.2.2.2.2.2.2.2.2.2.2.2.1
                have i16 := hI.2.2.2.2.2.2.2.2.2.2.2.2
                with_reducible refine Rg.exec_load (x := .tmp 5) (t := 22) (v := .agg (bvs key)) (xv := .pointer (some ⟨w.heap.size, 0, none⟩)) ?_ ?_ ?_ ?_
                · rfl
                · kernel_rfl
                · have r := Rg.stable_row hb d0'
                  rw [ld16, rld16 _ _ (by rw [r]; simp [go_sem, hk]), r]; rfl
                · exact (hK _ _ ⟨hb, fun _ => rfl, i1, i3, i5, i6, i8, i9, i10, i11, i12, i14, i16⟩ (Or.inr (Rg.Keep.refl _)))
              · intro L us wx hnot hdep hI K hK
                have hb := hI.1
                have i0' := hI.2.1
                have i1 := hI.2.2.1
                have i3 := hI.2.2.2.1
                have i5 := hI.2.2.2.2.1
                have i6 := hI.2.2.2.2.2.1
                have i8 := hI.2.2.2.2.2.2.1
                have i9 := hI.2.2.2.2.2.2.2.1
                have i10 := hI.2.2.2.2.2.2.2.2.1
                have i11 := hI.2.2.2.2.2.2.2.2.2.1
                have i12 := hI.2.2.2.2.2.2.2.2.2.2.1
                have i14 := hI.2.2.2.2.2.2.2.2.2.2.2.1
                have i16 := hI.2.2.2.2.2.2.2.2.2.2.2.2
                with_reducible refine Rg.exec_load (x := .tmp 6) (t := 23) (v := .agg (bvs nonce)) (xv := .pointer (some ⟨w.heap.size + 1, 0, none⟩)) ?_ ?_ ?_ ?_
                · rfl
                · kernel_rfl
                · have r := Rg.stable_row hb d1'
                  rw [ld12, rld12 _ _ (by rw [r]; simp [go_sem, hn]), r]; rfl
                · exact (hK _ _ ⟨hb, i0', fun _ => rfl, i3, i5, i6, i8, i9, i10, i11, i12, i14, i16⟩ (Or.inr (Rg.Keep.refl _)))
              · intro L us wx hnot hdep hI K hK
                have hb := hI.1
                have i0' := hI.2.1
                have i1 := hI.2.2.1
                have i3 := hI.2.2.2.1
                have i5 := hI.2.2.2.2.1
                have i6 := hI.2.2.2.2.2.1
                have i8 := hI.2.2.2.2.2.2.1
                have i9 := hI.2.2.2.2.2.2.2.1
                have i10 := hI.2.2.2.2.2.2.2.2.1
                have i11 := hI.2.2.2.2.2.2.2.2.2.1
                have i12 := hI.2.2.2.2.2.2.2.2.2.2.1
                have i14 := hI.2.2.2.2.2.2.2.2.2.2.2.1
                have i16 := hI.2.2.2.2.2.2.2.2.2.2.2.2
                refine Rg.exec_appendP (v := .slice (some ⟨g, 0, none⟩) (text.length + 16) (text.length + 16)) _ rfl Try.underlying24 hi hz0 hz1 hz2 (by kernel_rfl) (s7D'.below hb) (by omega) (fun v' w' h1 h2 => hK _ _ ⟨hb.trans (h2.mono hb.size), i0', i1, fun _ _ => own_lower h1 hb.size, fun a b => (i5 a b).below h2, fun a => own_below (i6 a) h2, i8, i9, fun a => ⟨(i10 a).1, (i10 a).2.below h2⟩, i11, i12, i14, i16⟩ (Or.inr (Rg.Keep.of_below h2)))
              · intro L us wx hnot hdep hI K hK
                have hb := hI.1
                have i0' := hI.2.1
                have i1 := hI.2.2.1
                have i3 := hI.2.2.2.1
                have i5 := hI.2.2.2.2.1
                have i6 := hI.2.2.2.2.2.1
                have i8 := hI.2.2.2.2.2.2.1
                have i9 := hI.2.2.2.2.2.2.2.1
                have i10 := hI.2.2.2.2.2.2.2.2.1
                have i11 := hI.2.2.2.2.2.2.2.2.2.1
                have i12 := hI.2.2.2.2.2.2.2.2.2.2.1
                have i14 := hI.2.2.2.2.2.2.2.2.2.2.2.1
                have i16 := hI.2.2.2.2.2.2.2.2.2.2.2.2
                have h2 : Below wx.heap.size wx (wx.alloc (.cells (bvs [more]) 5)) := (Below.refl _ _).alloc (Nat.le_refl _) _
                refine Rg.exec_value (v := .slice (some ⟨wx.heap.size, 0, none⟩) 1 1) (w' := wx.alloc (.cells (bvs [more]) 5)) (by simp [go_sem, execOp, Rg.puts]; rfl) (hK _ _ ⟨hb.trans (h2.mono hb.size), i0', i1, fun a b => own_below (i3 a b) h2, fun _ _ => ?_, fun a => own_below (i6 a) h2, i8, i9, fun a => ⟨(i10 a).1, (i10 a).2.below h2⟩, i11, i12, i14, i16⟩ (Or.inr (Rg.Keep.of_below h2)))
                refine ⟨_, 1, rfl, Nat.le_refl _, fun h => (by cases h), fun _ => ⟨wx.heap.size, 0, rfl, fun k hk => ?_⟩⟩
                rw [row?_cell (row?_alloc_at _ _ _ _ rfl)]
                match k, hk with
                | 0, _ => rfl
              · intro L us wx hnot hdep hI K hK
                have hb := hI.1
                have i0' := hI.2.1
                have i1 := hI.2.2.1
                have i3 := hI.2.2.2.1
                have i5 := hI.2.2.2.2.1
                have i6 := hI.2.2.2.2.2.1
                have i8 := hI.2.2.2.2.2.2.1
                have i9 := hI.2.2.2.2.2.2.2.1
                have i10 := hI.2.2.2.2.2.2.2.2.1
                have i11 := hI.2.2.2.2.2.2.2.2.2.1
                have i12 := hI.2.2.2.2.2.2.2.2.2.2.1
                have i14 := hI.2.2.2.2.2.2.2.2.2.2.2.1
                have i16 := hI.2.2.2.2.2.2.2.2.2.2.2.2
                have o3 := i3 (hdep 3 (by simp)) hnot
                have s5 := i5 (hdep 5 (by simp)) hnot
                have hlt3 := o3.lt
                rw [hSl] at o3
                refine Rg.exec_append2 _ _ rfl Try.underlying24 hi hz0 hz1 hz2 hb.size (l0 := S) (b0 := more) (v0 := us 3) (v := us 5) (by kernel_rfl) (by rw [hSl]; exact o3) (by kernel_rfl) s5 (by omega) (fun v' w' h1 h2 => hK _ _ ⟨hb.grown h2 hb.size (fun k hk => (hlt3 k hk).1), i0', i1, fun _ h => (by cases h), fun _ h => (by cases h), fun _ => h1, i8, i9, fun a => absurd (i10 a).1 (by rw [hnot]; decide), i11, i12, i14, i16⟩ (Or.inl rfl))
              · intro L us wx hnot hdep hI K hK
                have hb := hI.1
                have i0' := hI.2.1
                have i1 := hI.2.2.1
                have i3 := hI.2.2.2.1
                have i5 := hI.2.2.2.2.1
                have i6 := hI.2.2.2.2.2.1
                have i8 := hI.2.2.2.2.2.2.1
                have i9 := hI.2.2.2.2.2.2.2.1
                have i10 := hI.2.2.2.2.2.2.2.2.1
                have i11 := hI.2.2.2.2.2.2.2.2.2.1
                have i12 := hI.2.2.2.2.2.2.2.2.2.2.1
                have i14 := hI.2.2.2.2.2.2.2.2.2.2.2.1
                have i16 := hI.2.2.2.2.2.2.2.2.2.2.2.2
                refine Rg.exec_len (v := .slice (some ⟨g, 0, none⟩) (text.length + 16) (text.length + 16)) (n := (text.length + 16 : Nat)) rfl (by kernel_rfl) (by simp [go_sem]) (hK _ _ ⟨hb, i0', i1, i3, i5, i6, fun _ => rfl, i9, i10, i11, i12, i14, i16⟩ (Or.inr (Rg.Keep.refl _)))
              · intro L us wx hnot hdep hI K hK
                have hb := hI.1
                have i0' := hI.2.1
                have i1 := hI.2.2.1
                have i3 := hI.2.2.2.1
                have i5 := hI.2.2.2.2.1
                have i6 := hI.2.2.2.2.2.1
                have i8 := hI.2.2.2.2.2.2.1
                have i9 := hI.2.2.2.2.2.2.2.1
                have i10 := hI.2.2.2.2.2.2.2.2.1
                have i11 := hI.2.2.2.2.2.2.2.2.2.1
                have i12 := hI.2.2.2.2.2.2.2.2.2.2.1
                have i14 := hI.2.2.2.2.2.2.2.2.2.2.2.1
                have i16 := hI.2.2.2.2.2.2.2.2.2.2.2.2
                have e8 := i8 (hdep 8 (by simp))
                refine Rg.exec_min (c := 15) (n := (text.length + 16 : Nat)) rfl (by rw [← e8]; kernel_rfl) (by omega) (hK _ _ ⟨hb, i0', i1, i3, i5, i6, i8, fun _ => rfl, i10, i11, i12, i14, i16⟩ (Or.inr (Rg.Keep.refl _)))
              · intro L us wx hnot hdep hI K hK
                have hb := hI.1
                have i0' := hI.2.1
                have i1 := hI.2.2.1
                have i3 := hI.2.2.2.1
                have i5 := hI.2.2.2.2.1
                have i6 := hI.2.2.2.2.2.1
                have i8 := hI.2.2.2.2.2.2.1
                have i9 := hI.2.2.2.2.2.2.2.1
                have i10 := hI.2.2.2.2.2.2.2.2.1
                have i11 := hI.2.2.2.2.2.2.2.2.2.1
                have i12 := hI.2.2.2.2.2.2.2.2.2.2.1
                have i14 := hI.2.2.2.2.2.2.2.2.2.2.2.1
                have i16 := hI.2.2.2.2.2.2.2.2.2.2.2.2
                have o6 := i6 (hdep 6 (by simp))
                have e9 := i9 (hdep 9 (by simp))
                have l6 : L 6 = true := hdep 6 (by simp)
                have s6 : Sl wx (us 6) (S ++ [more]) := Own.sl (B := wD.drew.heap.size) (e := 5) (by rw [List.length_append]; exact o6)
                have key : ∃ v, (Instr.sliceAt 24 (us 6) none (some (.int .i64 15)) none).run Try.prog wx = .ok v wx ∧ Sl wx v ((S ++ [more]).take 15) := by
                  have s6' := s6
                  obtain ⟨ao6, cap6, e6, hc6, -, -⟩ := s6
                  rw [List.length_append, hSl] at e6 hc6
                  simp at e6 hc6
                  have hc15 := (e6 ▸ s6').cut 0 15 (by omega) (by omega)
                  rw [List.drop_zero] at hc15
                  exact ⟨.slice (cutA ao6 0 cap6) 15 cap6, by rw [e6, cut_h TB wx _ _ _ _ _ (by omega) (by omega)]; rfl, hc15⟩
                with_reducible refine Exists.elim key fun v hv => Rg.exec_slice (x := .tmp 68) (y := .tmp 71) (t := 24) (v := v) (xv := us 6) (yv := us 9) ?_ ?_ ?_ ?_ ?_
                · rfl
                · kernel_rfl
                · kernel_rfl
                · rw [e9]; exact hv.1
                · exact (hK _ _ ⟨hb, i0', i1, i3, i5, i6, i8, i9, fun _ => ⟨l6, hv.2⟩, i11, i12, i14, i16⟩ (Or.inr (Rg.Keep.refl _)))
              · intro L us wx hnot hdep hI K hK
                have hb := hI.1
                have i0' := hI.2.1
                have i1 := hI.2.2.1
                have i3 := hI.2.2.2.1
                have i5 := hI.2.2.2.2.1
                have i6 := hI.2.2.2.2.2.1
                have i8 := hI.2.2.2.2.2.2.1
                have i9 := hI.2.2.2.2.2.2.2.1
                have i10 := hI.2.2.2.2.2.2.2.2.1
                have i11 := hI.2.2.2.2.2.2.2.2.2.1
                have i12 := hI.2.2.2.2.2.2.2.2.2.2.1
                have i14 := hI.2.2.2.2.2.2.2.2.2.2.2.1
                have i16 := hI.2.2.2.2.2.2.2.2.2.2.2.2
                have e0 := i0' (hdep 0 (by simp))
                have e1 := i1 (hdep 1 (by simp))
                have s10 := (i10 (hdep 10 (by simp))).2
                have h15 : ((S ++ [more]).take 15).length < 16 := by rw [List.length_take]; omega
                have hsh := opened_short key nonce ((S ++ [more]).take 15) [] h15
                refine Rg.exec_fun (args := #[us 0, us 1, us 10, .slice none 0 0]) cfOpen rfl (by kernel_rfl) (by rw [e0, e1]; exact open_any key nonce ((S ++ [more]).take 15) [] hk hn (by omega) (by simp) _ _ _ s10 (Sl.nil _)) ?_
                rintro e wy ⟨v3, rfl, ho3, h2⟩
                rw [hsh]
                exact ⟨_, rfl, hK _ _ ⟨hb.trans (h2.mono hb.size), i0', i1, fun a b => own_below (i3 a b) h2, fun a b => (i5 a b).below h2, fun a => own_below (i6 a) h2, i8, i9, fun a => ⟨(i10 a).1, (i10 a).2.below h2⟩, fun _ => ⟨v3, rfl⟩, i12, i14, i16⟩ (Or.inr (Rg.Keep.of_below h2))⟩
              · intro L us wx hnot hdep hI K hK
                have hb := hI.1
                have i0' := hI.2.1
                have i1 := hI.2.2.1
                have i3 := hI.2.2.2.1
                have i5 := hI.2.2.2.2.1
                have i6 := hI.2.2.2.2.2.1
                have i8 := hI.2.2.2.2.2.2.1
                have i9 := hI.2.2.2.2.2.2.2.1
                have i10 := hI.2.2.2.2.2.2.2.2.1
                have i11 := hI.2.2.2.2.2.2.2.2.2.1
                have i12 := hI.2.2.2.2.2.2.2.2.2.2.1
                have i14 := hI.2.2.2.2.2.2.2.2.2.2.2.1
                have i16 := hI.2.2.2.2.2.2.2.2.2.2.2.2
                refine Rg.exec_pure (v := us 11) (by kernel_rfl) (hK _ _ ⟨hb, i0', i1, i3, i5, i6, i8, i9, i10, i11, fun _ => i11 (hdep 11 (by simp)), i14, i16⟩ (Or.inr (Rg.Keep.refl _)))
              · intro L us wx hnot hdep hI K hK
                have hb := hI.1
                have i0' := hI.2.1
                have i1 := hI.2.2.1
                have i3 := hI.2.2.2.1
                have i5 := hI.2.2.2.2.1
                have i6 := hI.2.2.2.2.2.1
                have i8 := hI.2.2.2.2.2.2.1
                have i9 := hI.2.2.2.2.2.2.2.1
                have i10 := hI.2.2.2.2.2.2.2.2.1
                have i11 := hI.2.2.2.2.2.2.2.2.2.1
                have i12 := hI.2.2.2.2.2.2.2.2.2.2.1
                have i14 := hI.2.2.2.2.2.2.2.2.2.2.2.1
                have i16 := hI.2.2.2.2.2.2.2.2.2.2.2.2
                have q12 := i12 (hdep 12 (by simp))
                with_reducible refine Exists.elim q12 fun u e12 => Rg.exec_extract (x := .tmp 61) (ix := 0) (v := u) (xv := us 12) ?_ ?_ ?_ ?_
                · rfl
                · kernel_rfl
                · rw [e12]; exact Rg.extract_0 _ _ _ _
                · exact hK _ _ ⟨hb, i0', i1, i3, i5, i6, i8, i9, i10, i11, i12, i14, i16⟩ (Or.inr (Rg.Keep.refl _))
              · intro L us wx hnot hdep hI K hK
                have hb := hI.1
                have i0' := hI.2.1
                have i1 := hI.2.2.1
                have i3 := hI.2.2.2.1
                have i5 := hI.2.2.2.2.1
                have i6 := hI.2.2.2.2.2.1
                have i8 := hI.2.2.2.2.2.2.1
                have i9 := hI.2.2.2.2.2.2.2.1
                have i10 := hI.2.2.2.2.2.2.2.2.1
                have i11 := hI.2.2.2.2.2.2.2.2.2.1
                have i12 := hI.2.2.2.2.2.2.2.2.2.2.1
                have i14 := hI.2.2.2.2.2.2.2.2.2.2.2.1
                have i16 := hI.2.2.2.2.2.2.2.2.2.2.2.2
                have q12 := i12 (hdep 12 (by simp))
                with_reducible refine Exists.elim q12 fun u e12 => Rg.exec_extract (x := .tmp 61) (ix := 1) (v := .int .i64 3) (xv := us 12) ?_ ?_ ?_ ?_
                · rfl
                · kernel_rfl
                · rw [e12]; exact Rg.extract_1 _ _ _ _
                · exact hK _ _ ⟨hb, i0', i1, i3, i5, i6, i8, i9, i10, i11, i12, fun _ => rfl, i16⟩ (Or.inr (Rg.Keep.refl _))
              · intro L us wx hnot hdep hI K hK
                have hb := hI.1
                have i0' := hI.2.1
                have i1 := hI.2.2.1
                have i3 := hI.2.2.2.1
                have i5 := hI.2.2.2.2.1
                have i6 := hI.2.2.2.2.2.1
                have i8 := hI.2.2.2.2.2.2.1
                have i9 := hI.2.2.2.2.2.2.2.1
                have i10 := hI.2.2.2.2.2.2.2.2.1
                have i11 := hI.2.2.2.2.2.2.2.2.2.1
                have i12 := hI.2.2.2.2.2.2.2.2.2.2.1
                have i14 := hI.2.2.2.2.2.2.2.2.2.2.2.1
                have i16 := hI.2.2.2.2.2.2.2.2.2.2.2.2
                refine Rg.exec_pure (v := us 13) (by kernel_rfl) (hK _ _ ⟨hb, i0', i1, i3, i5, i6, i8, i9, i10, i11, i12, i14, i16⟩ (Or.inr (Rg.Keep.refl _)))
              · intro L us wx hnot hdep hI K hK
                have hb := hI.1
                have i0' := hI.2.1
                have i1 := hI.2.2.1
                have i3 := hI.2.2.2.1
                have i5 := hI.2.2.2.2.1
                have i6 := hI.2.2.2.2.2.1
                have i8 := hI.2.2.2.2.2.2.1
                have i9 := hI.2.2.2.2.2.2.2.1
                have i10 := hI.2.2.2.2.2.2.2.2.1
                have i11 := hI.2.2.2.2.2.2.2.2.2.1
                have i12 := hI.2.2.2.2.2.2.2.2.2.2.1
                have i14 := hI.2.2.2.2.2.2.2.2.2.2.2.1
                have i16 := hI.2.2.2.2.2.2.2.2.2.2.2.2
                have e14 := i14 (hdep 14 (by simp))
                refine Rg.exec_pure (v := .int .i64 3) (by rw [← e14]; kernel_rfl) (hK _ _ ⟨hb, i0', i1, i3, i5, i6, i8, i9, i10, i11, i12, i14, fun _ => rfl⟩ (Or.inr (Rg.Keep.refl _)))
            · intro L us wE hall hI
              simp only [List.forall_mem_cons] at hall
              obtain ⟨-, -, -, -, -, -, -, -, -, -, -, -, -, h16, -⟩ := hall
              obtain ⟨hbE, -, -, -, -, -, -, -, -, -, -, -, i16⟩ := hI
              have e16 := i16 h16
              have bF : Below w.heap.size w wE := bD'.trans (hbE.mono bD'.size)
              have s10F := s10D'.below hbE
              clear hbE i16 h16 d0 d1 d0' d1' bD bD' s7D s7D' s10D s10D'
              simp only [Rg.puts, List.map_cons, List.map_nil]
              simp only [e16]
              clear e16
              generalize us 0 = y0
              generalize us 1 = y1
              generalize us 10 = y10
              generalize us 3 = y3
              generalize us 5 = y5
              generalize us 6 = y6
              generalize us 8 = y8
              generalize us 9 = y9
              generalize us 11 = y11
              generalize us 12 = y12
              generalize us 13 = y13
              generalize us 14 = y14
              generalize us 15 = y15
              clear us
              go_wp2_with (first
                | ((with_reducible refine Rg.plan_pure ?_ ?_ ?_); kernel_rfl; kernel_rfl; intro _ _)
                | ((with_reducible refine Rg.plan_take ?_ ?_ ?_); kernel_rfl; kernel_rfl; intro _ _)
                | ((with_reducible refine Rg.plan_keep ?_ ?_); kernel_rfl; intro K hK)
                | (refine hK _ _ (Rg.Keep.refl _) ?_; clear hK)
                | (refine hK _ _ (Rg.Keep.of_below (by assumption)) ?_; clear hK)
                | ((with_reducible refine Rg.plan_skip ?_ ?_); kernel_rfl)
                | (with_reducible refine Rg.plan_done ?_)
                | (with_reducible refine Rg.calm_normal ?_))
              refine (same_any text text (by omega) _ _ _ s10F (hst.below bF)).mono ?_
              rintro e wG ⟨rfl, hG⟩
              rw [decide_eq_true rfl]
              have bG : Below w.heap.size w wG := bF.trans (hG.mono bF.size)
              by_cases hz : OO.1 = 0
              · have hln : (OO.2.length : Int) = (text.length : Int) - 16 := by
                  rcases hOl with h | h
                  · exact absurd hz h
                  · rw [hTl] at h; exact h
                have hzI : ((OO.1 : Nat) : Int) = 0 := by omega
                go_wp2_with fail
                refine (awake_any _).mono ?_
                rintro e wH ⟨rfl, hH⟩
                have bH : Below w.heap.size w wH := bG.trans (hH.mono bG.size)
                go_wp2_with fail
                go_ret
                exact ⟨rfl, bH⟩
              · have hzI : ¬ ((OO.1 : Nat) : Int) = 0 := by omega
                go_wp2_with fail
                refine (awake_any _).mono ?_
                rintro e wH ⟨rfl, hH⟩
                have bH : Below w.heap.size w wH := bG.trans (hH.mono bG.size)
                go_wp2_with fail
                go_ret
                exact ⟨rfl, bH⟩
    · skip
      go_enter Try.func6, Try.ntmps6
      go_wp2_with (go_at_call 9; refine (awake_any _).mono ?_; rintro e w' ⟨rfl, hb⟩)
      go_ret
      exact early _ _ rfl hb
  · skip
    go_enter Try.func6, Try.ntmps6
    go_wp2_with (go_at_call 9; refine (awake_any _).mono ?_; rintro e w' ⟨rfl, hb⟩)
    go_ret
    exact early _ _ rfl hb
namespace gcmPartsP
theorem own : ownKnob Try.prog.godebug = none := by kernel_rfl
theorem laidOut : laidOutB Try.prog = true := by kernel_rfl
theorem readable : (Try.f6.params.toList.all fun t => Try.prog.readableRec t && decide (t < Try.prog.types.size)) = true := by kernel_rfl
theorem contract (H : Type) (enc : TypeId × Value → H) (W : World) (base : Nat) (args : Array Value) (ds gs : List (DataW H)) (before : List MemPlace)
    (hval : ∀ (j : Nat) t v, Try.f6.params[j]? = some t → args[j]? = some v → Value.okWide Try.prog W .any base t v)
    (hW : DataW.Whole enc Try.prog Try.f6.params.toList Rows.gcmPartsSpec.vars false W args.toList ds gs before) :
    Calls Try.prog 6 args W fun e W' => ∃ v, e = .returned v ∧ Rows.gcmPartsSpec.post enc Try.prog Try.f6 false true false false W args v W' := by
  have hW' := hW
  obtain ⟨p, q, hA0, hV, rfl, hfz, hnd⟩ := hW
  have hA : DataW.TrodAll enc Try.prog W 0 (fun _ => true) true Try.f6.params.toList args.toList ds p := hA0
  rw [Try.params6] at hA hval
  obtain ⟨v0, vs0, d0, ds0, p0, q0, hargs, rfl, rfl, h0, r0⟩ := trodAll_cons hA
  obtain ⟨v1, vs1, d1, ds1, p1, q1, rfl, rfl, rfl, h1, r1⟩ := trodAll_cons r0
  obtain ⟨v2, vs2, d2, ds2, p2, q2, rfl, rfl, rfl, h2, r2⟩ := trodAll_cons r1
  obtain ⟨v3, vs3, d3, ds3, p3, q3, rfl, rfl, rfl, h3, r3⟩ := trodAll_cons r2
  obtain ⟨v4, vs4, d4, ds4, p4, q4, rfl, rfl, rfl, h4, r4⟩ := trodAll_cons r3
  obtain ⟨rfl, rfl, rfl⟩ := trodAll_nil r4
  obtain rfl : args = #[v0, v1, v2, v3, v4] := by cases args; simp_all
  obtain ⟨key, h_key, rfl⟩ := Law.open_bytes Try.underlying22 (by kernel_rfl) ⟨List.replicate 16 5, by kernel_rfl, by kernel_rfl⟩ Try.underlying5 (hval 0 22 v0 rfl rfl)
  obtain ⟨nonce, h_nonce, rfl⟩ := Law.open_bytes Try.underlying23 (by kernel_rfl) ⟨List.replicate 12 5, by kernel_rfl, by kernel_rfl⟩ Try.underlying5 (hval 1 23 v1 rfl rfl)
  obtain ⟨text, h_text⟩ := Law.open_slice Try.underlying24 Try.underlying5 (by kernel_rfl) (hval 2 24 v2 rfl rfl) h2
  obtain ⟨data, h_data⟩ := Law.open_slice Try.underlying24 Try.underlying5 (by kernel_rfl) (hval 3 24 v3 rfl rfl) h3
  obtain ⟨more, rfl⟩ := Law.open_u8 Try.underlying5 (hval 4 5 v4 rfl rfl)
  refine (partsLaw_any key nonce text data more h_key h_nonce v2 v3 W h_text h_data).mono fun e W' ⟨he, hb⟩ => ?_
  subst he
  exact ⟨_, rfl, Law.post_of_law laidOut readable hW' rfl hb rfl Try.underlying4 rfl rfl rfl⟩
set_option maxRecDepth 100000 in
theorem lifted (os : Os) (started : os.Started) (H : Type) (enc : TypeId × Value → H) :
    ReturnsInHanded {} Try.checked os 6 .any (Rows.gcmPartsSpec.pre6 enc Try.prog Try.f6 Rows.gcmPartsRow.domain false) (Rows.gcmPartsSpec.post enc Try.prog Try.f6 false true false false) := by
  refine returnsInHanded_of_change (C := Try.checked) own started (by kernel_rfl) Try.func6
    (ChangeSpec.witness6 (enc := enc) (C := Try.checked) false ⟨#[], #[.agg #[.int .u8 0, .int .u8 0, .int .u8 0, .int .u8 0, .int .u8 0, .int .u8 0, .int .u8 0, .int .u8 0, .int .u8 0, .int .u8 0, .int .u8 0, .int .u8 0, .int .u8 0, .int .u8 0, .int .u8 0, .int .u8 0], .agg #[.int .u8 0, .int .u8 0, .int .u8 0, .int .u8 0, .int .u8 0, .int .u8 0, .int .u8 0, .int .u8 0, .int .u8 0, .int .u8 0, .int .u8 0, .int .u8 0], .slice none 0 0, .slice none 0 0, .int .u8 0], []⟩ 8 (by kernel_rfl) (by kernel_rfl) (by kernel_rfl) (by kernel_rfl)) ?_
  intro W base args ds gs before hval hW _ _
  exact contract H enc W base args ds gs before hval hW
theorem said : Rows.GcmPartsSaid :=
  OpenClaim.holds_of_wide 6 Try.f6 rfl rfl rfl rfl rfl rfl rfl ⟨rfl, rfl, rfl, rfl, rfl⟩ rfl rfl rfl rfl rfl (by kernel_rfl) Try.func6 (by kernel_rfl)
    (of_decide_eq_true (by kernel_rfl)) (by unfold Func.isWrapper; first | (rw [if_pos (by decide +kernel)]; kernel_rfl) | (rw [if_neg (by decide +kernel)]; exact ⟨rfl, rfl⟩))
    (fun os started H enc _ => lifted os started H enc)
end gcmPartsP
end Go.Proofs.Ytdfblojnkchpdaa
