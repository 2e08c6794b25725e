/- The walk of the law ToneShifts. -/
import Derived.Test.YtenoldpfclmedaaTonN
import Derived.Test.YtenoldpfclmedaaTonW4
import Derived.Test.YtenoldpfclmedaaLibK
import Derived.Test.YtenoldpfclmedaaLibG
namespace Tone
open Go Go.Rw
/-- a row filled as far as i -/
def fillL (g : Nat → Int) (N i : Nat) : List Int := (List.range N).map fun j => if j < i then g j else 0
theorem fillL_len (g : Nat → Int) (N i : Nat) : (fillL g N i).length = N := by simp [fillL]
theorem fillL_zero (g : Nat → Int) (N : Nat) : fillL g N 0 = List.replicate N 0 := by
  apply List.ext_getElem (by simp [fillL])
  intro i h1 h2
  simp [fillL]
theorem fillL_ni (g : Nat → Int) (N i j : Nat) (h : j < N) : ni (fillL g N i) j = if j < i then g j else 0 := by
  simp [fillL, ni, h]
theorem fillL_set (g : Nat → Int) (N i : Nat) (_ : i < N) : (fillL g N i).set i (g i) = fillL g N (i + 1) := by
  apply List.ext_getElem (by simp [fillL])
  intro j h1 h2
  simp only [List.getElem_set, fillL, List.getElem_map, List.getElem_range]
  by_cases hj : i = j
  · subst hj; simp
  · rw [if_neg hj]
    by_cases h3 : j < i
    · rw [if_pos h3, if_pos (by omega)]
    · rw [if_neg h3, if_neg (by omega)]
theorem ni_cons (x : Int) (l : List Int) (j : Nat) : ni (x :: l) (j + 1) = ni l j := by simp [ni]
theorem q4_cons (l : List Int) (j : Nat) (hj : j < 4) : ∀ n, q4 (0 :: l) (n + 1) ((j + 1) % 4) = q4 l n j
  | 0 => by simp [q4, bump, ni]
  | n + 1 => by
    have ih := q4_cons l j hj n
    have e1 : q4 (0 :: l) (n + 1 + 1) = bump (q4 (0 :: l) (n + 1)) ((n + 1) % 4) (ni (0 :: l) (n + 1)) := rfl
    have e2 : q4 l (n + 1) = bump (q4 l n) (n % 4) (ni l n) := rfl
    rw [e1, e2]
    unfold bump
    rw [ih, ni_cons]
    congr 1
    by_cases h : n % 4 = j
    · rw [if_pos h, if_pos (by omega)]
    · rw [if_neg h, if_neg (by omega)]
/-- two rows at once -/
theorem q4_add (a b c : List Int) (N : Nat) (h : ∀ i, i < N → ni c i = ni a i + ni b i) : ∀ n, n ≤ N → ∀ j, q4 c n j = q4 a n j + q4 b n j
  | 0, _, _ => by simp [q4]
  | n + 1, hn, j => by
    have ih := q4_add a b c N h n (by omega) j
    simp only [q4, bump]
    rw [ih, h n (by omega)]
    split <;> omega
theorem re_add {f g s : Nat → Int} (h : ∀ j, s j = f j + g j) (k : Nat) (hk : k < 4) : re s k = re f k + re g k := by
  rcases (by omega : k = 0 ∨ k = 1 ∨ k = 2 ∨ k = 3) with rfl | rfl | rfl | rfl
  · simp only [re0, h]; omega
  · simp only [re1, h]; omega
  · simp only [re2, h]; omega
  · simp only [re3, h]; omega
theorem im_add {f g s : Nat → Int} (h : ∀ j, s j = f j + g j) (k : Nat) (hk : k < 4) : im s k = im f k + im g k := by
  rcases (by omega : k = 0 ∨ k = 1 ∨ k = 2 ∨ k = 3) with rfl | rfl | rfl | rfl
  · simp only [im0]; omega
  · simp only [im1, h]; omega
  · simp only [im2]; omega
  · simp only [im3, h]; omega
/-- each sum turned by its number -/
theorem re_turn {f g : Nat → Int} (h : ∀ j, j < 4 → g ((j + 1) % 4) = f j) (k : Nat) (hk : k < 4) : re f k * cs k - im f k * sn k = re g k ∧ re f k * sn k + im f k * cs k = im g k := by
  have h0 : g 1 = f 0 := h 0 (by omega)
  have h1 : g 2 = f 1 := h 1 (by omega)
  have h2 : g 3 = f 2 := h 2 (by omega)
  have h3 : g 0 = f 3 := h 3 (by omega)
  rcases (by omega : k = 0 ∨ k = 1 ∨ k = 2 ∨ k = 3) with rfl | rfl | rfl | rfl
  · rw [re0, im0, re0, im0, h0, h1, h2, h3]; simp [cs, sn]; omega
  · rw [re1, im1, re1, im1, h0, h1, h2, h3]; simp [cs, sn]; omega
  · rw [re2, im2, re2, im2, h0, h1, h2, h3]; simp [cs, sn]; omega
  · rw [re3, im3, re3, im3, h0, h1, h2, h3]; simp [cs, sn]; omega
end Tone
namespace Go.Rg
open Go Go.RowKit Go.Rw
theorem exec_make {P : Program} {o : Oper} {a : Act} {w w' : World} {v xv yv : Value} {t : TypeId} {x y : Operand} {K : Act → World → Prop} (ho : o.op = .makeSlice t x y) (ha : a.eval x = xv) (hb : a.eval y = yv)
    (hs : (Instr.makeSlice t xv yv).run P w = .ok v w') (h : K (a.put o.dst v) w') : o.wp P a w K NoQ := by
  refine exec_value (v := v) (w' := w') ?_ h
  generalize a.eval = ρ at ha hb
  simp [execOp, ho, ha, hb, hs, Result.andThen]
theorem exec_assign {P : Program} {o : Oper} {a : Act} {w : World} {v : Value} {x : Operand} {K : Act → World → Prop} (ho : o.op = .assign x) (ha : a.eval x = v) (h : K (a.put o.dst v) w) : o.wp P a w K NoQ := by
  refine exec_value (v := v) (w' := w) ?_ h
  generalize a.eval = ρ at ha
  simp [execOp, ho, ha]
end Go.Rg
namespace Go.Proofs.Ytenoldpfclmedaa
open Go.RowKit Go.Rw Tone
theorem powV_swap (a b : Int) : powV a b = powV b a := by
  unfold powV
  by_cases h : (a.natAbs : Int) ≤ 33554432 ∧ (b.natAbs : Int) ≤ 33554432
  · rw [if_pos h, if_pos h.symm]; omega
  · rw [if_neg h, if_neg (fun k => h k.symm)]
theorem powV_neg (a b : Int) : powV (-a) b = powV a b := by
  unfold powV
  rw [Int.natAbs_neg, Int.neg_mul_neg]
theorem pow_shift {f g : Nat → Int} (h : ∀ j, j < 4 → g ((j + 1) % 4) = f j) (k : Nat) (hk : k < 4) : powV (re g k) (im g k) = powV (re f k) (im f k) := by
  have h0 : g 1 = f 0 := h 0 (by omega)
  have h1 : g 2 = f 1 := h 1 (by omega)
  have h2 : g 3 = f 2 := h 2 (by omega)
  have h3 : g 0 = f 3 := h 3 (by omega)
  rcases (by omega : k = 0 ∨ k = 1 ∨ k = 2 ∨ k = 3) with rfl | rfl | rfl | rfl
  · rw [re0, im0, re0, im0, h0, h1, h2, h3, show f 3 + f 0 + f 1 + f 2 = f 0 + f 1 + f 2 + f 3 by omega]
  · rw [re1, im1, re1, im1, h0, h1, h2, h3, powV_swap, show f 2 - f 0 = -(f 0 - f 2) by omega, powV_neg, show f 3 - f 1 = f 3 - f 1 from rfl]
  · rw [re2, im2, re2, im2, h0, h1, h2, h3, show f 3 - f 0 + f 1 - f 2 = -(f 0 - f 1 + f 2 - f 3) by omega, powV_neg]
  · rw [re3, im3, re3, im3, h0, h1, h2, h3, show f 3 - f 1 = -(f 1 - f 3) by omega, powV_neg, powV_swap]
theorem pow13 (f : Nat → Int) : powV (re f 3) (im f 3) = powV (re f 1) (im f 1) := by
  rw [re1, im1, re3, im3, powV_swap, show f 1 - f 3 = -(f 3 - f 1) by omega, powV_neg, powV_swap]
/-- words of a sum, of a turned one -/
theorem addc_Fl {f g s : Nat → Int} (h : ∀ j, s j = f j + g j) {k : Nat} (hk : k < 4) {a b c d : Nat} (hf : small f) (hg : small g) (ha : Fl a (re f k)) (hb : Fl b (im f k)) (hc : Fl c (re g k)) (hd : Fl d (im g k)) :
    ∃ p q, cSumBits .add .f64 a b c d = some (p, q) ∧ Fl p (re s k) ∧ Fl q (im s k) := by
  have r1 := re_lt hf hk
  have r2 := im_lt hf hk
  have r3 := re_lt hg hk
  have r4 := im_lt hg hk
  rw [re_add h k hk, im_add h k hk]
  exact csum_Fl ha hb hc hd (by omega) (by omega)
theorem turnc_Fl {f g : Nat → Int} (h : ∀ j, j < 4 → g ((j + 1) % 4) = f j) {k : Nat} (hk : k < 4) {a b c d : Nat} (hf : small f) (ha : Fl a (re f k)) (hb : Fl b (im f k)) (hc : Fl c (cs k)) (hd : Fl d (sn k)) :
    ∃ p q, cMulBits a b c d = some (p, q) ∧ Fl p (re g k) ∧ Fl q (im g k) := by
  have r1 := re_lt hf hk
  have r2 := im_lt hf hk
  have m1 := mul_le1 (re f k) _ (cs_le k)
  have m2 := mul_le1 (im f k) _ (sn_le k)
  have m3 := mul_le1 (re f k) _ (sn_le k)
  have m4 := mul_le1 (im f k) _ (cs_le k)
  obtain ⟨e1, e2⟩ := re_turn h k hk
  rw [← e1, ← e2]
  exact cmul_Fl ha hb hc hd (by omega) (by omega) (by omega) (by omega) (by omega) (by omega)
attribute [local go_sem ↓] ldZ stZ alZ ldI stI alI
attribute [local go_sem] rldZ rstZ ralZ rldI rstI ralI setRow_alloc_at setRow_alloc_past setRow_drew run_store_cx fillL_len
/-- three new rows of zeros, made in any order, and named -/
def MI (N : Nat) (w0 : World) : Rg.Inv := fun L us w => Below w0.heap.size w0 w ∧
  (∀ i ∈ [1, 3, 5], L i = true → ∃ B, us i = .slice (some ⟨B, 0, none⟩) N N ∧ w0.heap.size ≤ B ∧ row? w B = some (ivs (List.replicate N 0))) ∧
  (∀ i ∈ [1, 3, 5], ∀ j ∈ [1, 3, 5], i ≠ j → L i = true → L j = true → Rg.vblk (us i) ≠ Rg.vblk (us j)) ∧
  (∀ p ∈ [(6, 1), (7, 3), (8, 5)], L p.1 = true → L p.2 = true ∧ us p.1 = us p.2)
theorem MI_init (N : Nat) (w0 : World) (us : Nat → Value) : MI N w0 (fun _ => false) us w0 :=
  ⟨Below.refl _ _, fun _ _ h => (by cases h), fun _ _ _ _ _ h => (by cases h), fun _ _ h => (by cases h)⟩
theorem MI_make {N : Nat} {w0 : World} {L : Nat → Bool} {us : Nat → Value} {w : World} (h : MI N w0 L us w) (i0 : Nat) (hi0 : i0 ∈ [1, 3, 5]) (hL : L i0 = false) :
    MI N w0 (Rg.updB L i0) (Rg.upd us i0 (.slice (some ⟨w.heap.size, 0, none⟩) N N)) (w.alloc (.cells (ivs (List.replicate N 0)) 3)) := by
  obtain ⟨hb, hm, hd, ha⟩ := h
  have hlt : ∀ i ∈ [1, 3, 5], L i = true → Rg.vblk (us i) < w.heap.size := fun i hi hl => by
    obtain ⟨B, e, _, hr⟩ := hm i hi hl
    rw [e]; exact row?_lt hr
  refine ⟨hb.alloc hb.size _, fun i hi hl => ?_, fun i hi j hj hne h1 h2 => ?_, fun p hp h1 => ?_⟩
  · by_cases e : i = i0
    · subst e
      exact ⟨w.heap.size, by simp [Rg.upd], hb.size, row?_alloc_at _ _ _ _ rfl⟩
    · simp only [Rg.updB, if_neg e] at hl
      obtain ⟨B, e1, e2, e3⟩ := hm i hi hl
      exact ⟨B, by simp [Rg.upd, e, e1], e2, by rw [row?_alloc_past _ _ _ (row?_lt e3)]; exact e3⟩
  · by_cases e : i = i0
    · have e' : j ≠ i0 := fun k => hne (e.trans k.symm)
      simp only [Rg.updB, if_neg e'] at h2
      have := hlt j hj h2
      simp only [Rg.upd, if_pos e, if_neg e', Rg.vblk] at this ⊢
      omega
    · simp only [Rg.updB, if_neg e] at h1
      by_cases e' : j = i0
      · have := hlt i hi h1
        simp only [Rg.upd, if_neg e, if_pos e', Rg.vblk] at this ⊢
        omega
      · simp only [Rg.updB, if_neg e'] at h2
        simp only [Rg.upd, if_neg e, if_neg e']
        exact hd i hi j hj hne h1 h2
  · have hp1 : p.1 ≠ i0 := by
      simp at hp hi0
      rcases hp with rfl | rfl | rfl <;> simp <;> omega
    simp only [Rg.updB, if_neg hp1] at h1
    obtain ⟨k1, k2⟩ := ha p hp h1
    have hp2 : p.2 ≠ i0 := fun e => by rw [e, hL] at k1; cases k1
    simp only [Rg.updB, Rg.upd, if_neg hp1, if_neg hp2]
    exact ⟨k1, k2⟩
theorem MI_name {N : Nat} {w0 : World} {L : Nat → Bool} {us : Nat → Value} {w : World} (h : MI N w0 L us w) (a i : Nat) (hp : (a, i) ∈ [(6, 1), (7, 3), (8, 5)]) (hL : L i = true) :
    MI N w0 (Rg.updB L a) (Rg.upd us a (us i)) w := by
  obtain ⟨hb, hm, hd, ha⟩ := h
  have ha6 : 6 ≤ a := by simp at hp; omega
  have hsm : ∀ j ∈ [1, 3, 5], j ≠ a := fun j hj e => by simp at hj; omega
  have hi5 : i ∈ [1, 3, 5] := by simp at hp ⊢; omega
  refine ⟨hb, fun j hj hl => ?_, fun j hj k hk hne h1 h2 => ?_, fun p hp' h1 => ?_⟩
  · simp only [Rg.updB, if_neg (hsm j hj)] at hl
    simp only [Rg.upd, if_neg (hsm j hj)]
    exact hm j hj hl
  · simp only [Rg.updB, if_neg (hsm j hj), if_neg (hsm k hk)] at h1 h2
    simp only [Rg.upd, if_neg (hsm j hj), if_neg (hsm k hk)]
    exact hd j hj k hk hne h1 h2
  · have hp2 : p.2 ∈ [1, 3, 5] := by simp at hp'; rcases hp' with rfl | rfl | rfl <;> simp
    by_cases e : p.1 = a
    · have : p.2 = i := by
        simp at hp hp'
        rcases hp' with rfl | rfl | rfl <;> simp at e ⊢ <;> omega
      simp only [Rg.updB, Rg.upd, if_pos e, this, if_neg (hsm i hi5)]
      exact ⟨hL, trivial⟩
    · simp only [Rg.updB, if_neg e] at h1
      obtain ⟨k1, k2⟩ := ha p hp' h1
      simp only [Rg.updB, Rg.upd, if_neg e, if_neg (hsm _ hp2)]
      exact ⟨k1, k2⟩
theorem MI_exec_make {N : Nat} {w0 : World} {ops : Array Oper} {R : List Rg.Flo} {a0 : Act} (i0 d : Nat) (s : Nat) (hi0 : i0 ∈ [1, 3, 5]) (ho : (ops.toList.getD i0 default).op = .makeSlice 22 (.tmp s) (.tmp s)) (hd : (ops.toList.getD i0 default).dst = some d)
    (ha : ∀ us, (Rg.puts us R a0).eval (.tmp s) = .int .i64 (N : Nat)) (hN : N ≤ 1000000) (L : Nat → Bool) (us : Nat → Value) (w : World) (hL : L i0 = false) (hI : MI N w0 L us w) (K : Act → World → Prop)
    (hK : ∀ v w', MI N w0 (Rg.updB L i0) (Rg.upd us i0 v) w' → Rg.Keep w w' → K ((Rg.puts us R a0).put (some d) v) w') : (ops.toList.getD i0 default).wp Try.prog (Rg.puts us R a0) w K Rg.NoQ := by
  refine Rg.exec_make ho (ha us) (ha us) (mk_ints N hN w) ?_
  rw [hd]
  exact hK _ _ (MI_make hI i0 hi0 hL) (Rg.Keep.of_below ((Below.refl _ _).alloc (Nat.le_refl _) _))
theorem MI_exec_name {N : Nat} {w0 : World} {ops : Array Oper} {R : List Rg.Flo} {a0 : Act} (a i d : Nat) (s : Nat) (hp : (a, i) ∈ [(6, 1), (7, 3), (8, 5)]) (ho : (ops.toList.getD a default).op = .assign (.tmp s)) (hd : (ops.toList.getD a default).dst = some d)
    (ha : ∀ us, (Rg.puts us R a0).eval (.tmp s) = us i) (L : Nat → Bool) (us : Nat → Value) (w : World) (hL : L i = true) (hI : MI N w0 L us w) (K : Act → World → Prop)
    (hK : ∀ v w', MI N w0 (Rg.updB L a) (Rg.upd us a v) w' → Rg.Keep w w' → K ((Rg.puts us R a0).put (some d) v) w') : (ops.toList.getD a default).wp Try.prog (Rg.puts us R a0) w K Rg.NoQ := by
  refine Rg.exec_assign ho (ha us) ?_
  rw [hd]
  exact hK _ _ (MI_name hI a i hp hL) (Rg.Keep.refl _)
set_option maxRecDepth 20000 in
set_option maxHeartbeats 4000000 in
theorem shiftsLaw_any (xs ys : List Int) (vx vy : Value) (w : World) (hx : Si w vx xs) (hy : Si w vy ys) :
    Calls Try.prog 6 #[vx, vy] w fun e w' => e = .returned (.bool true) ∧ Below w.heap.size w w' := by
  have HX := Lib.hid hx
  obtain ⟨ax, cx, rfl, _, hnx, hpx⟩ := hx
  obtain ⟨ay, cy, rfl, _, hny, hpy⟩ := hy
  obtain ⟨i0, hi, hz0, hz1, hz2⟩ := info_parts infoI
  obtain ⟨N, hN⟩ : ∃ N : Nat, min (min xs.length ys.length) 60 = N := ⟨_, rfl⟩
  have hN1 : N ≤ xs.length := by omega
  have hN2 : N ≤ ys.length := by omega
  have hN3 : N ≤ 60 := by omega
  obtain ⟨M, hM⟩ : ∃ M : Nat, min xs.length ys.length = M := ⟨_, rfl⟩
  have m1 : (if ys.length < xs.length then (ys.length : Int) else (xs.length : Int)) = (M : Int) := by split <;> omega
  have m2 : (if (60 : Int) < (M : Int) then (60 : Int) else (M : Int)) = (N : Int) := by split <;> omega
  have m3 : (60 : Int) < (if ys.length < xs.length then (ys.length : Int) else (xs.length : Int)) ↔ (60 : Int) < (M : Int) := by rw [m1]
  have HN := Lib.hid hN
  have HM := Lib.hid hM
  clear hN hM
  go_enter Try.func6, Try.ntmps6
  go_wp2_with fail
  have hmk := fun W => mk_ints N (by omega) W
  refine Rg.wp_region_inv [(0, 3), (2, 3), (4, 3)] [⟨1, 22, [], false, fun _ _ => True⟩, ⟨3, 24, [], false, fun _ _ => True⟩, ⟨5, 26, [], false, fun _ _ => True⟩, ⟨6, 6, [1], false, fun _ _ => True⟩, ⟨7, 7, [1, 3, 6], false, fun _ _ => True⟩, ⟨8, 8, [1, 3, 5, 6, 7], false, fun _ _ => True⟩] [(1, 22, []), (3, 24, []), (5, 26, []), (6, 6, [1]), (7, 7, [1, 3, 6]), (8, 8, [1, 3, 5, 6, 7])] [] [] (by kernel_rfl) (by kernel_rfl) rfl (by kernel_rfl) ?_
  simp only [Rg.row, Rg.PT.map, List.getD_cons_zero, List.getD_cons_succ]
  refine Rg.plan_pure (by kernel_rfl) (by kernel_rfl) ?_
  intro K hK
  refine Rg.exec_value (v := .int .i64 (N : Nat)) (w' := w.drew) (by simp [go_sem, execOp]) (hK _ _ ?_)
  clear hK
  refine Rg.plan_pure (by kernel_rfl) (by kernel_rfl) ?_
  intro K hK
  refine Rg.exec_value (v := .int .i64 (N : Nat)) (w' := w.drew) (by simp [go_sem, execOp]) (hK _ _ ?_)
  clear hK
  refine Rg.plan_pure (by kernel_rfl) (by kernel_rfl) ?_
  intro K hK
  refine Rg.exec_value (v := .int .i64 (N : Nat)) (w' := w.drew) (by simp [go_sem, execOp]) (hK _ _ ?_)
  clear hK
  refine Rg.plan_done ?_
  refine Rg.phaseI_done (MI N w.drew) (Rg.PhaseI.mk (MI_init N _) ?_ ?_)
  · refine List.forall_mem_cons.2 ⟨?_, List.forall_mem_cons.2 ⟨?_, List.forall_mem_cons.2 ⟨?_, List.forall_mem_cons.2 ⟨?_, List.forall_mem_cons.2 ⟨?_, List.forall_mem_cons.2 ⟨?_, fun r hr => (by cases hr)⟩⟩⟩⟩⟩⟩
    · with_reducible intro L us wx hL _ hI K hK
      with_reducible refine MI_exec_make 1 22 21 ?_ ?_ ?_ ?_ ?_ L us wx hL hI K (fun v w' h1 h2 => hK v w' h1 (.inr h2))
      · simp
      · kernel_rfl
      · kernel_rfl
      · intro us; kernel_rfl
      · omega
    · with_reducible intro L us wx hL _ hI K hK
      with_reducible refine MI_exec_make 3 24 23 ?_ ?_ ?_ ?_ ?_ L us wx hL hI K (fun v w' h1 h2 => hK v w' h1 (.inr h2))
      · simp
      · kernel_rfl
      · kernel_rfl
      · intro us; kernel_rfl
      · omega
    · with_reducible intro L us wx hL _ hI K hK
      with_reducible refine MI_exec_make 5 26 25 ?_ ?_ ?_ ?_ ?_ L us wx hL hI K (fun v w' h1 h2 => hK v w' h1 (.inr h2))
      · simp
      · kernel_rfl
      · kernel_rfl
      · intro us; kernel_rfl
      · omega
    · with_reducible intro L us wx _ hdep hI K hK
      with_reducible refine MI_exec_name 6 1 6 22 ?_ ?_ ?_ ?_ L us wx (hdep 1 ?_) hI K (fun v w' h1 h2 => hK v w' h1 (.inr h2))
      · simp
      · kernel_rfl
      · kernel_rfl
      · intro us; kernel_rfl
      · simp
    · with_reducible intro L us wx _ hdep hI K hK
      with_reducible refine MI_exec_name 7 3 7 24 ?_ ?_ ?_ ?_ L us wx (hdep 3 ?_) hI K (fun v w' h1 h2 => hK v w' h1 (.inr h2))
      · simp
      · kernel_rfl
      · kernel_rfl
      · intro us; kernel_rfl
      · simp
    · with_reducible intro L us wx _ hdep hI K hK
      with_reducible refine MI_exec_name 8 5 8 26 ?_ ?_ ?_ ?_ L us wx (hdep 5 ?_) hI K (fun v w' h1 h2 => hK v w' h1 (.inr h2))
      · simp
      · kernel_rfl
      · kernel_rfl
      · intro us; kernel_rfl
      · simp
  · with_reducible intro L us wZ hL hI
    obtain ⟨hbZ, hm, hd, ha⟩ := hI
    obtain ⟨B1, e1, f1, r1⟩ := hm 1 (by simp) (hL ⟨1, 22, [], false, fun _ _ => True⟩ (by simp))
    obtain ⟨B2, e2, f2, r2⟩ := hm 3 (by simp) (hL ⟨3, 24, [], false, fun _ _ => True⟩ (by simp))
    obtain ⟨B3, e3, f3, r3⟩ := hm 5 (by simp) (hL ⟨5, 26, [], false, fun _ _ => True⟩ (by simp))
    have n12 := hd 1 (by simp) 3 (by simp) (by simp) (hL ⟨1, 22, [], false, fun _ _ => True⟩ (by simp)) (hL ⟨3, 24, [], false, fun _ _ => True⟩ (by simp))
    have n13 := hd 1 (by simp) 5 (by simp) (by simp) (hL ⟨1, 22, [], false, fun _ _ => True⟩ (by simp)) (hL ⟨5, 26, [], false, fun _ _ => True⟩ (by simp))
    have n23 := hd 3 (by simp) 5 (by simp) (by simp) (hL ⟨3, 24, [], false, fun _ _ => True⟩ (by simp)) (hL ⟨5, 26, [], false, fun _ _ => True⟩ (by simp))
    have a6 := (ha (6, 1) (by simp) (hL ⟨6, 6, [1], false, fun _ _ => True⟩ (by simp))).2
    have a7 := (ha (7, 3) (by simp) (hL ⟨7, 7, [1, 3, 6], false, fun _ _ => True⟩ (by simp))).2
    have a8 := (ha (8, 5) (by simp) (hL ⟨8, 8, [1, 3, 5, 6, 7], false, fun _ _ => True⟩ (by simp))).2
    simp only at a6 a7 a8
    rw [e1] at a6
    rw [e2] at a7
    rw [e3] at a8
    simp only [e1, e2, e3, Rg.vblk] at n12 n13 n23
    have zb : Below w.heap.size w wZ := (Below.refl _ _).drew.trans hbZ
    have s1 : w.heap.size ≤ B1 := f1
    have s2 : w.heap.size ≤ B2 := f2
    have s3 : w.heap.size ≤ B3 := f3
    simp only [Rg.puts, List.map_nil]
    simp only [e1, e2, e3, a6, a7, a8]
    clear hm hd ha hL e1 e2 e3 f1 f2 f3 a6 a7 a8 hbZ hmk
    obtain ⟨gA, hgA⟩ : ∃ g : Nat → Int, (fun j => sm (ni xs j)) = g := ⟨_, rfl⟩
    obtain ⟨gB, hgB⟩ : ∃ g : Nat → Int, (fun j => sm (ni ys j)) = g := ⟨_, rfl⟩
    obtain ⟨gC, hgC⟩ : ∃ g : Nat → Int, (fun j => gA j + gB j) = g := ⟨_, rfl⟩
    have HGA := Lib.hid hgA
    have HGB := Lib.hid hgB
    have HGC := Lib.hid hgC
    have R1 := Lib.hid r1
    have R2 := Lib.hid r2
    have R3 := Lib.hid r3
    have ZB := Lib.hid zb
    clear hgA hgB hgC r1 r2 r3 zb
    go_wp2_with (first
      | ((with_reducible refine Rg.plan_pure ?_ ?_ ?_); kernel_rfl; kernel_rfl; intro _ _)
      | ((with_reducible refine Rg.plan_take ?_ ?_ ?_); kernel_rfl; kernel_rfl; intro _ _)
      | ((with_reducible refine Rg.plan_keep ?_ ?_); kernel_rfl; intro K hK)
      | (refine hK _ _ (Rg.Keep.refl _) ?_; clear hK)
      | (refine hK _ _ (Rg.Keep.of_below (by assumption)) ?_; clear hK)
      | ((with_reducible refine Rg.plan_skip ?_ ?_); kernel_rfl)
      | (with_reducible refine Rg.plan_done ?_)
      | (with_reducible refine Rg.calm_normal ?_))
    go_loopw [9, 10] (fun s v wr => ∃ i : Nat, i ≤ N ∧ v = .int .i64 i ∧ s = .int .i64 (re (q4 (fillL gA N N) i) 0) ∧ row? wr B1 = some (ivs (fillL gA N i)) ∧ row? wr B2 = some (ivs (fillL gB N i)) ∧ row? wr B3 = some (ivs (fillL gC N i)) ∧ Below w.heap.size w wr) (fun _ v _ => N - (intOf v).toNat)
    case atStart => exact ⟨0, by omega, rfl, by simp [re0, q4], by rw [fillL_zero]; exact R1.out, by rw [fillL_zero]; exact R2.out, by rw [fillL_zero]; exact R3.out, ZB.out⟩
    case round =>
      obtain ⟨i, hil, rfl, rfl, h1, h2, h3, hbw⟩ := hrel
      by_cases hlt : i < N
      · obtain ⟨bx, ox, rfl, hcx⟩ := hpx (by omega)
        obtain ⟨by_, oy, rfl, hcy⟩ := hpy (by omega)
        have c1 := below_cell hbw (hcx i (by omega)) (cell_lt (hcx i (by omega)))
        have c2 := below_cell hbw (hcy i (by omega)) (cell_lt (hcy i (by omega)))
        have lbx : bx < w.heap.size := cell_lt (hcx i (by omega))
        have lby : by_ < w.heap.size := cell_lt (hcy i (by omega))
        have HCX := Lib.hid hcx
        have HCY := Lib.hid hcy
        clear hcx hcy
        go_wp2_with fail
        refine Rg.wp_region_plan (Rg.row [(0, 3), (1, 3), (2, 3), (3, 3), (4, 3), (5, 3), (6, 3), (7, 0), (10, 3), (11, 3), (12, 3), (13, 0), (8, 1), (9, 3), (14, 1), (15, 3), (16, 3)] [17, 18, 19]) [17, 18, 19] (by kernel_rfl) (by kernel_rfl) ?_
        simp only [Rg.row, Rg.PT.map, List.map_cons, List.map_nil, List.getD_cons_zero, List.getD_cons_succ]
        go_wp2_with (first
          | ((with_reducible refine Rg.plan_pure ?_ ?_ ?_); kernel_rfl; kernel_rfl; intro _ _)
          | ((with_reducible refine Rg.plan_take ?_ ?_ ?_); kernel_rfl; kernel_rfl; intro _ _)
          | ((with_reducible refine Rg.plan_keep ?_ ?_); kernel_rfl; intro K hK)
          | (refine hK _ _ (Rg.Keep.refl _) ?_; clear hK)
          | (refine hK _ _ (Rg.Keep.of_below (by assumption)) ?_; clear hK)
          | ((with_reducible refine Rg.plan_skip ?_ ?_); kernel_rfl)
          | (with_reducible refine Rg.plan_done ?_)
          | (with_reducible refine Rg.calm_normal ?_))
        have hga : gA i = sm (ni xs i) := by rw [← HGA.out]
        have hgb : gB i = sm (ni ys i) := by rw [← HGB.out]
        have hgc : gC i = gA i + gB i := by rw [← HGC.out]
        have ya := sm_le (ni xs i)
        have yb := sm_le (ni ys i)
        have la := low_lt (ni xs i) 2001 (by omega)
        have lb := low_lt (ni ys i) 2001 (by omega)
        have wa : wrap64 ((low (ni xs i) 2001 : Nat) - 1000 : Int) = gA i := by rw [hga]; exact IntWalk.wrap64_in _ (by omega)
        have wb : wrap64 ((low (ni ys i) 2001 : Nat) - 1000 : Int) = gB i := by rw [hgb]; exact IntWalk.wrap64_in _ (by omega)
        rw [← hga] at ya
        rw [← hgb] at yb
        have k1 : wr.cell? ⟨B1, i, none⟩ = some (.int .i64 0) := (row?_cell h1 i).trans (by rw [ivs_getElem?, fillL_len, if_pos hlt, fillL_ni _ _ _ _ hlt, if_neg (by omega)])
        have k2 : wr.cell? ⟨B2, i, none⟩ = some (.int .i64 0) := (row?_cell h2 i).trans (by rw [ivs_getElem?, fillL_len, if_pos hlt, fillL_ni _ _ _ _ hlt, if_neg (by omega)])
        have k3 : wr.cell? ⟨B3, i, none⟩ = some (.int .i64 0) := (row?_cell h3 i).trans (by rw [ivs_getElem?, fillL_len, if_pos hlt, fillL_ni _ _ _ _ hlt, if_neg (by omega)])
        have z1 := row?_frozen h1 i
        have z2 := row?_frozen h2 i
        have z3 := row?_frozen h3 i
        have hst1 := fillL_set gA N i hlt
        have hst2 := fillL_set gB N i hlt
        have hst3 := fillL_set gC N i hlt
        rw [hgc] at hst3
        have hnA : ni (fillL gA N N) i = gA i := by rw [fillL_ni _ _ _ _ hlt, if_pos hlt]
        have hq : q4 (fillL gA N N) (i + 1) = bump (q4 (fillL gA N N) i) (i % 4) (gA i) := by rw [← hnA]; rfl
        have hsmall : small (q4 (fillL gA N N) i) := q4_small (fun j hj => by
          rw [fillL_len] at hj
          have e : gA j = sm (ni xs j) := by rw [← HGA.out]
          rw [fillL_ni _ _ _ _ hj, if_pos hj, e]
          have := sm_le (ni xs j)
          omega) (by rw [fillL_len]; omega) (by rw [fillL_len]; omega)
        have b0 := re_lt hsmall (k := 0) (by omega)
        have r0 : re (q4 (fillL gA N N) i) 0 + gA i = re (q4 (fillL gA N N) (i + 1)) 0 := by rw [hq, re_bump _ _ _ _ (by omega)]; simp [cs]
        have w0 : wrap64 (re (q4 (fillL gA N N) i) 0 + gA i) = re (q4 (fillL gA N N) (i + 1)) 0 := by rw [← r0]; exact IntWalk.wrap64_in _ (by omega)
        have wc : wrap64 (gA i + gB i) = gA i + gB i := IntWalk.wrap64_in _ (by omega)
        have H1 := Lib.hid h1
        have H2 := Lib.hid h2
        have H3 := Lib.hid h3
        have S1 := Lib.hid hst1
        have S2 := Lib.hid hst2
        have S3 := Lib.hid hst3
        have n21 : ¬ B2 = B1 := fun e => n12 e.symm
        have n31 : ¬ B3 = B1 := fun e => n13 e.symm
        have n32 : ¬ B3 = B2 := fun e => n23 e.symm
        clear h1 h2 h3 hst1 hst2 hst3 hga hgb hgc hnA hq hsmall b0 r0 la lb
        generalize ni xs i = x at *
        generalize ni ys i = y at *
        generalize gA i = a at *
        generalize gB i = b at *
        refine (low_any x 2001 (by omega) (by omega) _).mono ?_
        rintro e w' ⟨rfl, rfl⟩
        dsimp only
        refine hK _ _ (Rg.Keep.refl _) ?_
        clear hK
        go_wp2_with (first
          | ((with_reducible refine Rg.plan_pure ?_ ?_ ?_); kernel_rfl; kernel_rfl; intro _ _)
          | ((with_reducible refine Rg.plan_take ?_ ?_ ?_); kernel_rfl; kernel_rfl; intro _ _)
          | ((with_reducible refine Rg.plan_keep ?_ ?_); kernel_rfl; intro K hK)
          | (refine hK _ _ (Rg.Keep.refl _) ?_; clear hK)
          | (refine hK _ _ (Rg.Keep.of_below (by assumption)) ?_; clear hK)
          | ((with_reducible refine Rg.plan_skip ?_ ?_); kernel_rfl)
          | (with_reducible refine Rg.plan_done ?_)
          | (with_reducible refine Rg.calm_normal ?_))
        refine (low_any y 2001 (by omega) (by omega) _).mono ?_
        rintro e w' ⟨rfl, rfl⟩
        dsimp only
        refine hK _ _ (Rg.Keep.refl _) ?_
        clear hK
        go_wp2_with (first
          | ((with_reducible refine Rg.plan_pure ?_ ?_ ?_); kernel_rfl; kernel_rfl; intro _ _)
          | ((with_reducible refine Rg.plan_take ?_ ?_ ?_); kernel_rfl; kernel_rfl; intro _ _)
          | ((with_reducible refine Rg.plan_keep ?_ ?_); kernel_rfl; intro K hK)
          | (refine hK _ _ (Rg.Keep.refl _) ?_; clear hK)
          | (refine hK _ _ (Rg.Keep.of_below (by assumption)) ?_; clear hK)
          | ((with_reducible refine Rg.plan_skip ?_ ?_); kernel_rfl)
          | (with_reducible refine Rg.plan_done ?_)
          | (with_reducible refine Rg.calm_normal ?_))
        refine Rg.wp_region_plan (Rg.row [(0, 3), (1, 3), (2, 3), (3, 3), (4, 3), (5, 0), (6, 3), (7, 3), (8, 3), (9, 0), (10, 3), (11, 3)] [12]) [12] (by kernel_rfl) (by kernel_rfl) ?_
        simp only [Rg.row, Rg.PT.map, List.map_cons, List.map_nil, List.getD_cons_zero, List.getD_cons_succ]
        go_wp2_with (first
          | ((with_reducible refine Rg.plan_pure ?_ ?_ ?_); kernel_rfl; kernel_rfl; intro _ _)
          | ((with_reducible refine Rg.plan_take ?_ ?_ ?_); kernel_rfl; kernel_rfl; intro _ _)
          | ((with_reducible refine Rg.plan_keep ?_ ?_); kernel_rfl; intro K hK)
          | (refine hK _ _ (Rg.Keep.refl _) ?_; clear hK)
          | (refine hK _ _ (Rg.Keep.of_below (by assumption)) ?_; clear hK)
          | ((with_reducible refine Rg.plan_skip ?_ ?_); kernel_rfl)
          | (with_reducible refine Rg.plan_done ?_)
          | (with_reducible refine Rg.calm_normal ?_))
        go_roundw
        case rel =>
          refine ⟨i + 1, by omega, by go_num, by first | rfl | exact congrArg (Value.int .i64) w0, ?_, ?_, ?_, ?_⟩
          · rw [row?_drew, row?_drew, row?_setCell_ne _ _ _ _ n13, row?_setCell_ne _ _ _ _ n12, row?_setCell_eq H1.out, ivs_set, S1.out]
          · rw [row?_drew, row?_drew, row?_setCell_ne _ _ _ _ n23, row?_setCell_eq (by rw [row?_setCell_ne _ _ _ _ n21]; exact H2.out), ivs_set, S2.out]
          · rw [row?_drew, row?_drew, row?_setCell_eq (by rw [row?_setCell_ne _ _ _ _ n32, row?_setCell_ne _ _ _ _ n31]; exact H3.out), ivs_set, S3.out]
          · exact (((hbw.setCell s1 _).setCell s2 _).setCell s3 _).drew.drew
        case measure => simp [intOf]; omega
      · obtain rfl : i = N := by omega
        obtain ⟨A, hA⟩ : ∃ A, fillL gA i i = A := ⟨_, rfl⟩
        obtain ⟨B, hB⟩ : ∃ B, fillL gB i i = B := ⟨_, rfl⟩
        obtain ⟨C, hC⟩ : ∃ C, fillL gC i i = C := ⟨_, rfl⟩
        have lA : A.length = i := by rw [← hA, fillL_len]
        have lB : B.length = i := by rw [← hB, fillL_len]
        have lC : C.length = i := by rw [← hC, fillL_len]
        have nA : ∀ j, j < i → ni A j = sm (ni xs j) := fun j hj => by
          have e : gA j = sm (ni xs j) := by rw [← HGA.out]
          rw [← hA, fillL_ni _ _ _ _ hj, if_pos hj, e]
        have nB : ∀ j, j < i → ni B j = sm (ni ys j) := fun j hj => by
          have e : gB j = sm (ni ys j) := by rw [← HGB.out]
          rw [← hB, fillL_ni _ _ _ _ hj, if_pos hj, e]
        have nC : ∀ j, j < i → ni C j = ni A j + ni B j := fun j hj => by
          have e1 : gA j = sm (ni xs j) := by rw [← HGA.out]
          have e2 : gB j = sm (ni ys j) := by rw [← HGB.out]
          have e : gC j = gA j + gB j := by rw [← HGC.out]
          rw [nA j hj, nB j hj, ← hC, fillL_ni _ _ _ _ hj, if_pos hj, e, e1, e2]
        have okA : okN A := fun j hj => by
          rw [lA] at hj
          rw [nA j hj]
          have := sm_le (ni xs j); omega
        have okB : okN B := fun j hj => by
          rw [lB] at hj
          rw [nB j hj]
          have := sm_le (ni ys j); omega
        have okC : okN C := fun j hj => by
          rw [lC] at hj
          rw [nC j hj, nA j hj, nB j hj]
          have := sm_le (ni xs j); have := sm_le (ni ys j); omega
        have smA : small (q4 A i) := q4_small okA (by omega) (by omega)
        have smB : small (q4 B i) := q4_small okB (by omega) (by omega)
        have hadd : ∀ j, q4 C i j = q4 A i j + q4 B i j := q4_add A B C i nC i (Nat.le_refl _)
        have hall : (re (q4 A i) 0).natAbs ≤ 33554432 := by
          have t : ∀ n, n ≤ i → ∀ j, (q4 A n j).natAbs ≤ n * 1000 := by
            intro n
            induction n with
            | zero => intro _ j; simp [q4]
            | succ n ih =>
              intro hn j
              have i1 := ih (by omega) j
              have := nA n (by omega)
              have := sm_le (ni xs n)
              simp only [q4, bump]
              split <;> omega
          have t0 := t i (Nat.le_refl _) 0
          have t1 := t i (Nat.le_refl _) 1
          have t2 := t i (Nat.le_refl _) 2
          have t3 := t i (Nat.le_refl _) 3
          rw [re0]; omega
        have q1 := Si.row h1
        have q2 := Si.row h2
        have q3 := Si.row h3
        rw [fillL_len] at q1 q2 q3
        rw [hA] at q1 ⊢
        rw [hB] at q2
        rw [hC] at q3
        have QA := Lib.hid q1
        have QB := Lib.hid q2
        have QC := Lib.hid q3
        have OA := Lib.hid okA
        have OB := Lib.hid okB
        have OC := Lib.hid okC
        have LA := Lib.hid lA
        have LB := Lib.hid lB
        have LC := Lib.hid lC
        have SA := Lib.hid smA
        have SB := Lib.hid smB
        have HADD := Lib.hid hadd
        have HALL := Lib.hid hall
        clear q1 q2 q3 okA okB okC smA smB hadd hall nA nB nC hA hB hC lA lB lC h1 h2 h3
        go_wp2_with fail
        refine (sums_any A (by rw [LA.out]; omega) OA.out _ _ QA.out).mono ?_
        rintro e w1 ⟨z1, rfl, hz1, b1⟩
        rw [LA.out] at hz1
        have B1' := Lib.hid (hbw.trans (b1.mono hbw.size))
        have QB1 := Lib.hid (QB.out.below b1)
        have QC1 := Lib.hid (QC.out.below b1)
        have QA1 := Lib.hid (QA.out.below b1)
        have Z1 := Lib.hid hz1
        clear b1 hz1
        go_wp2_with fail
        refine (sums_any B (by rw [LB.out]; omega) OB.out _ _ QB1.out).mono ?_
        rintro e w2 ⟨z2, rfl, hz2', b2⟩
        rw [LB.out] at hz2'
        have B2' := Lib.hid (B1'.out.trans (b2.mono B1'.out.size))
        have QC2 := Lib.hid (QC1.out.below b2)
        have QA2 := Lib.hid (QA1.out.below b2)
        have Z2 := Lib.hid hz2'
        clear b2 hz2'
        go_wp2_with fail
        refine (sums_any C (by rw [LC.out]; omega) OC.out _ _ QC2.out).mono ?_
        rintro e w3 ⟨z3, rfl, hz3, b3⟩
        rw [LC.out] at hz3
        have B3' := Lib.hid (B2'.out.trans (b3.mono B2'.out.size))
        have QA3 := Lib.hid (QA2.out.below b3)
        have Z3 := Lib.hid hz3
        clear b3 hz3
        obtain ⟨w4, hw4⟩ : ∃ w4, ((w3.alloc (.cells (zv z1) 25)).alloc (.cells (zv z2) 25)).alloc (.cells (zv z3) 25) = w4 := ⟨_, rfl⟩
        have P1 := Lib.hid (show row? w4 w3.heap.size = some (zv z1) by rw [← hw4]; simp [go_sem])
        have P2 := Lib.hid (show row? w4 (w3.heap.size + 1) = some (zv z2) by rw [← hw4]; simp [go_sem])
        have P3 := Lib.hid (show row? w4 (w3.heap.size + 1 + 1) = some (zv z3) by rw [← hw4]; simp [go_sem])
        have B4 := Lib.hid (show Below w.heap.size w w4 by rw [← hw4]; exact B3'.out.trans ((bl3 w3 _ _ _).mono B3'.out.size))
        have QA4 := Lib.hid (show Si w4 (.slice (some ⟨B1, 0, none⟩) i i) A by rw [← hw4]; exact QA3.out.below (bl3 w3 _ _ _))
        have SZ4 := Lib.hid (show w4.heap.size = w3.heap.size + 3 by rw [← hw4]; simp)
        go_wp2_with (at_builtin; refine Classical.byContradiction ?_)
        intro hh; apply hh; clear hh
        clear hw4
        refine app_si rfl _ _ 22 rfl w4.heap.size 3 i0 Try.underlying22 hi hz0 hz1 hz2 (.slice (some ⟨w4.heap.size, 0, none⟩) 1 1) [0] rfl (World.ownsRow_lit (base := w4.heap.size) w4 #[.int .i64 0] 1 (Nat.le_refl _) (by decide) (by simp)) _ A rfl (QA4.out.below ((Below.refl _ _).alloc (Nat.le_refl _) _)) ?hlen ?hbase ?_
        case hlen => rw [LA.out]; simp; omega
        case hbase => simp
        intro v5 w5 hown5 hgrow5
        have hD : [0] ++ A = 0 :: A := rfl
        rw [hD] at hown5
        have lD : (0 :: A).length = i + 1 := by simp [LA.out]
        have okD : okN (0 :: A) := fun j hj => by
          match j with
          | 0 => simp [ni]
          | j + 1 =>
            rw [ni_cons]
            exact OA.out j (by simp at hj; omega)
        have hb5 : Below w4.heap.size w4 w5 := ((Below.refl w4.heap.size w4).alloc (Nat.le_refl _) _).grown hgrow5 (by simp) (fun k hk => by simp [Value.ownBlock] at hk; omega)
        have B5 := Lib.hid (B4.out.trans (hb5.mono B4.out.size))
        have P15 := Lib.hid (Rg.stable_row hb5 P1.out)
        have P25 := Lib.hid (Rg.stable_row hb5 P2.out)
        have P35 := Lib.hid (Rg.stable_row hb5 P3.out)
        have QD := Lib.hid (Own.si hown5)
        have OD := Lib.hid okD
        have LD := Lib.hid lD
        clear hb5 hown5 hgrow5 okD lD hD
        go_wp2_with fail
        refine (sums_any (0 :: A) (by rw [LD.out]; omega) OD.out _ _ QD.out).mono ?_
        rintro e w6 ⟨z4, rfl, hz4, b6⟩
        rw [LD.out] at hz4
        have hsh : ∀ j, j < 4 → q4 (0 :: A) (i + 1) ((j + 1) % 4) = q4 A i j := fun j hj => q4_cons A j hj i
        have Z4 := Lib.hid hz4
        have HSH := Lib.hid hsh
        have hb7 : Below w6.heap.size w6 (w6.alloc (.cells (zv z4) 25)) := (Below.refl _ _).alloc (Nat.le_refl _) _
        have B7 := Lib.hid ((B5.out.trans (b6.mono B5.out.size)).trans (hb7.mono (B5.out.trans (b6.mono B5.out.size)).size))
        have P17 := Lib.hid (Rg.stable_row hb7 (Rg.stable_row b6 P15.out))
        have P27 := Lib.hid (Rg.stable_row hb7 (Rg.stable_row b6 P25.out))
        have P37 := Lib.hid (Rg.stable_row hb7 (Rg.stable_row b6 P35.out))
        have P47 := Lib.hid (row?_alloc_at w6 (zv z4) 25 w6.heap.size rfl)
        clear hz4 b6 hsh hb7
        generalize q4 (0 :: A) (i + 1) = g at *
        generalize q4 A i = f at *
        generalize q4 B i = f2 at *
        generalize q4 C i = f3 at *
        go_wp2_with fail
        go_loopw [15] (fun v wr => ∃ k : Nat, k ≤ 4 ∧ v = .int .i64 k ∧ row? wr w3.heap.size = some (zv z1) ∧ row? wr (w3.heap.size + 1) = some (zv z2) ∧ row? wr (w3.heap.size + 1 + 1) = some (zv z3) ∧ row? wr w6.heap.size = some (zv z4) ∧ Below w.heap.size w wr) (fun v _ => 4 - (intOf v).toNat)
        case atStart => exact ⟨0, by omega, rfl, P17.out, P27.out, P37.out, P47.out, B7.out⟩
        case round =>
          obtain ⟨k, hk, rfl, r1, r2, r3, r4, hbk⟩ := hrel
          by_cases hlt4 : k < 4
          · have k1 := (row?_cell r1 k).trans (zv_get z1 k hlt4)
            have k2 := (row?_cell r2 k).trans (zv_get z2 k hlt4)
            have k3 := (row?_cell r3 k).trans (zv_get z3 k hlt4)
            have k4 := (row?_cell r4 k).trans (zv_get z4 k hlt4)
            obtain ⟨u1, u2⟩ := Z1.out k hlt4
            obtain ⟨v1, v2⟩ := Z2.out k hlt4
            obtain ⟨x1, x2⟩ := Z3.out k hlt4
            obtain ⟨y1, y2⟩ := Z4.out k hlt4
            obtain ⟨p, q, es, fp, fq⟩ := addc_Fl HADD.out hlt4 SA.out SB.out u1 u2 v1 v2
            have o1 := order_eq x1 fp
            have o2 := order_eq x2 fq
            have hs := fun W => run_complex_sum (P := Try.prog) W .add (.inl rfl) 24 _ _ _ _ _ _ _ es
            have U1 := Lib.hid u1
            have U2 := Lib.hid u2
            have Y1 := Lib.hid y1
            have Y2 := Lib.hid y2
            have R1' := Lib.hid r1
            have R2' := Lib.hid r2
            have R3' := Lib.hid r3
            have R4' := Lib.hid r4
            have HPW := Lib.hid (pow_shift HSH.out k hlt4)
            clear u1 u2 v1 v2 x1 x2 y1 y2 es fp fq r1 r2 r3 r4
            go_wp2_with fail
            refine Rg.wp_region_plan (Rg.row [(0, 3), (1, 3), (2, 0), (3, 3), (4, 3), (5, 0), (6, 3), (7, 3), (8, 0), (9, 1), (10, 1), (11, 3), (12, 3), (13, 3), (14, 0), (15, 3), (16, 3), (17, 0), (18, 3), (19, 1), (20, 1), (21, 1), (22, 3), (23, 3), (24, 3), (25, 3), (26, 0), (28, 3), (29, 3), (30, 0), (27, 1), (31, 1), (32, 3), (33, 3)] []) [] (by kernel_rfl) (by kernel_rfl) ?_
            simp only [Rg.row, Rg.PT.map, List.map_nil, List.getD_cons_zero, List.getD_cons_succ]
            go_wp2_with (first
              | ((with_reducible refine Rg.plan_pure ?_ ?_ ?_); kernel_rfl; kernel_rfl; intro _ _)
              | ((with_reducible refine Rg.plan_take ?_ ?_ ?_); kernel_rfl; kernel_rfl; intro _ _)
              | ((with_reducible refine Rg.plan_keep ?_ ?_); kernel_rfl; intro K hK)
              | (refine hK _ _ (Rg.Keep.refl _) ?_; clear hK)
              | (refine hK _ _ (Rg.Keep.of_below (by assumption)) ?_; clear hK)
              | ((with_reducible refine Rg.plan_skip ?_ ?_); kernel_rfl)
              | (with_reducible refine Rg.plan_done ?_)
              | (with_reducible refine Rg.calm_normal ?_))
            refine hK _ _ (Rg.Keep.refl _) ?_
            clear hK
            go_wp2_with (first
              | ((with_reducible refine Rg.plan_pure ?_ ?_ ?_); kernel_rfl; kernel_rfl; intro _ _)
              | ((with_reducible refine Rg.plan_take ?_ ?_ ?_); kernel_rfl; kernel_rfl; intro _ _)
              | ((with_reducible refine Rg.plan_keep ?_ ?_); kernel_rfl; intro K hK)
              | (refine hK _ _ (Rg.Keep.refl _) ?_; clear hK)
              | (refine hK _ _ (Rg.Keep.of_below (by assumption)) ?_; clear hK)
              | ((with_reducible refine Rg.plan_skip ?_ ?_); kernel_rfl)
              | (with_reducible refine Rg.plan_done ?_)
              | (with_reducible refine Rg.calm_normal ?_))
            refine hK _ _ (Rg.Keep.refl _) ?_
            clear hK
            go_wp2_with (first
              | ((with_reducible refine Rg.plan_pure ?_ ?_ ?_); kernel_rfl; kernel_rfl; intro _ _)
              | ((with_reducible refine Rg.plan_take ?_ ?_ ?_); kernel_rfl; kernel_rfl; intro _ _)
              | ((with_reducible refine Rg.plan_keep ?_ ?_); kernel_rfl; intro K hK)
              | (refine hK _ _ (Rg.Keep.refl _) ?_; clear hK)
              | (refine hK _ _ (Rg.Keep.of_below (by assumption)) ?_; clear hK)
              | ((with_reducible refine Rg.plan_skip ?_ ?_); kernel_rfl)
              | (with_reducible refine Rg.plan_done ?_)
              | (with_reducible refine Rg.calm_normal ?_))
            refine (turn_any _ _).mono ?_
            rintro e w9 ⟨c, d, rfl, hc, hd, rfl⟩
            obtain ⟨p', q', em, fp', fq'⟩ := turnc_Fl HSH.out hlt4 SA.out U1.out U2.out hc hd
            have hm := fun W => run_complex_mul (P := Try.prog) W 24 _ _ _ _ _ _ em
            have o3 := order_eq Y1.out fp'
            have o4 := order_eq Y2.out fq'
            clear hc hd em fp' fq'
            dsimp only
            refine hK _ _ (Rg.Keep.refl _) ?_
            clear hK
            go_wp2_with (first
              | ((with_reducible refine Rg.plan_pure ?_ ?_ ?_); kernel_rfl; kernel_rfl; intro _ _)
              | ((with_reducible refine Rg.plan_take ?_ ?_ ?_); kernel_rfl; kernel_rfl; intro _ _)
              | ((with_reducible refine Rg.plan_keep ?_ ?_); kernel_rfl; intro K hK)
              | (refine hK _ _ (Rg.Keep.refl _) ?_; clear hK)
              | (refine hK _ _ (Rg.Keep.of_below (by assumption)) ?_; clear hK)
              | ((with_reducible refine Rg.plan_skip ?_ ?_); kernel_rfl)
              | (with_reducible refine Rg.plan_done ?_)
              | (with_reducible refine Rg.calm_normal ?_))
            refine hK _ _ (Rg.Keep.refl _) ?_
            clear hK
            go_wp2_with (first
              | ((with_reducible refine Rg.plan_pure ?_ ?_ ?_); kernel_rfl; kernel_rfl; intro _ _)
              | ((with_reducible refine Rg.plan_take ?_ ?_ ?_); kernel_rfl; kernel_rfl; intro _ _)
              | ((with_reducible refine Rg.plan_keep ?_ ?_); kernel_rfl; intro K hK)
              | (refine hK _ _ (Rg.Keep.refl _) ?_; clear hK)
              | (refine hK _ _ (Rg.Keep.of_below (by assumption)) ?_; clear hK)
              | ((with_reducible refine Rg.plan_skip ?_ ?_); kernel_rfl)
              | (with_reducible refine Rg.plan_done ?_)
              | (with_reducible refine Rg.calm_normal ?_))
            refine hK _ _ (Rg.Keep.refl _) ?_
            clear hK
            go_wp2_with (first
              | ((with_reducible refine Rg.plan_pure ?_ ?_ ?_); kernel_rfl; kernel_rfl; intro _ _)
              | ((with_reducible refine Rg.plan_take ?_ ?_ ?_); kernel_rfl; kernel_rfl; intro _ _)
              | ((with_reducible refine Rg.plan_keep ?_ ?_); kernel_rfl; intro K hK)
              | (refine hK _ _ (Rg.Keep.refl _) ?_; clear hK)
              | (refine hK _ _ (Rg.Keep.of_below (by assumption)) ?_; clear hK)
              | ((with_reducible refine Rg.plan_skip ?_ ?_); kernel_rfl)
              | (with_reducible refine Rg.plan_done ?_)
              | (with_reducible refine Rg.calm_normal ?_))
            refine (power_any Y1.out Y2.out _).mono ?_
            rw [HPW.out]
            rintro e w9 ⟨rfl, rfl⟩
            dsimp only
            refine hK _ _ (Rg.Keep.refl _) ?_
            clear hK
            go_wp2_with (first
              | ((with_reducible refine Rg.plan_pure ?_ ?_ ?_); kernel_rfl; kernel_rfl; intro _ _)
              | ((with_reducible refine Rg.plan_take ?_ ?_ ?_); kernel_rfl; kernel_rfl; intro _ _)
              | ((with_reducible refine Rg.plan_keep ?_ ?_); kernel_rfl; intro K hK)
              | (refine hK _ _ (Rg.Keep.refl _) ?_; clear hK)
              | (refine hK _ _ (Rg.Keep.of_below (by assumption)) ?_; clear hK)
              | ((with_reducible refine Rg.plan_skip ?_ ?_); kernel_rfl)
              | (with_reducible refine Rg.plan_done ?_)
              | (with_reducible refine Rg.calm_normal ?_))
            refine (power_any U1.out U2.out _).mono ?_
            rintro e w9 ⟨rfl, rfl⟩
            dsimp only
            refine hK _ _ (Rg.Keep.refl _) ?_
            clear hK
            go_wp2_with (first
              | ((with_reducible refine Rg.plan_pure ?_ ?_ ?_); kernel_rfl; kernel_rfl; intro _ _)
              | ((with_reducible refine Rg.plan_take ?_ ?_ ?_); kernel_rfl; kernel_rfl; intro _ _)
              | ((with_reducible refine Rg.plan_keep ?_ ?_); kernel_rfl; intro K hK)
              | (refine hK _ _ (Rg.Keep.refl _) ?_; clear hK)
              | (refine hK _ _ (Rg.Keep.of_below (by assumption)) ?_; clear hK)
              | ((with_reducible refine Rg.plan_skip ?_ ?_); kernel_rfl)
              | (with_reducible refine Rg.plan_done ?_)
              | (with_reducible refine Rg.calm_normal ?_))
            go_roundw
            case rel => exact ⟨k + 1, by omega, by go_num, R1'.out, R2'.out, R3'.out, R4'.out, hbk.drew⟩
            case measure => simp [intOf]; omega
          · obtain rfl : k = 4 := by omega
            have Z10 := Z1.out 0 (by omega)
            have Z11 := Z1.out 1 (by omega)
            have Z13 := Z1.out 3 (by omega)
            rw [im0] at Z10
            have k0 := (row?_cell r1 0).trans (zv_get z1 0 (by omega))
            have k1 := (row?_cell r1 1).trans (zv_get z1 1 (by omega))
            have k3 := (row?_cell r1 3).trans (zv_get z1 3 (by omega))
            have o1 := order_eq Z10.1 (flBig _ (by have := HALL.out; omega))
            have o2 := order_eq Z10.2 fl0
            have sq := sq_le (x := re f 0) (by have := HALL.out; omega)
            have hp0 : powV (re f 0) 0 = re f 0 * re f 0 := by unfold powV; rw [if_pos ⟨by have := HALL.out; omega, by simp⟩]; omega
            have wq : wrap64 (re f 0 * re f 0) = re f 0 * re f 0 := IntWalk.wrap64_in _ (by omega)
            have HP0 := Lib.hid hp0
            have HP13 := Lib.hid (pow13 f)
            have W0 := Lib.hid Z10
            have W1 := Lib.hid Z11
            have W3 := Lib.hid Z13
            clear Z10 Z11 Z13 sq hp0 r1 r2 r3 r4
            go_wp2_with fail
            refine Rg.wp_region_plan (Rg.row [(0, 3), (1, 0), (2, 3), (3, 3), (4, 3), (5, 1), (6, 3), (7, 3), (8, 0), (9, 3), (10, 1), (11, 3), (12, 3), (13, 3), (14, 0), (16, 3), (17, 0), (15, 1), (18, 1), (19, 3), (20, 3), (21, 3), (22, 3), (23, 0), (25, 3), (26, 3), (27, 3), (24, 1), (28, 3), (29, 3), (30, 3), (31, 1), (32, 3), (33, 3)] []) [] (by kernel_rfl) (by kernel_rfl) ?_
            simp only [Rg.row, Rg.PT.map, List.map_nil, List.getD_cons_zero, List.getD_cons_succ]
            go_wp2_with (first
              | ((with_reducible refine Rg.plan_pure ?_ ?_ ?_); kernel_rfl; kernel_rfl; intro _ _)
              | ((with_reducible refine Rg.plan_take ?_ ?_ ?_); kernel_rfl; kernel_rfl; intro _ _)
              | ((with_reducible refine Rg.plan_keep ?_ ?_); kernel_rfl; intro K hK)
              | (refine hK _ _ (Rg.Keep.refl _) ?_; clear hK)
              | (refine hK _ _ (Rg.Keep.of_below (by assumption)) ?_; clear hK)
              | ((with_reducible refine Rg.plan_skip ?_ ?_); kernel_rfl)
              | (with_reducible refine Rg.plan_done ?_)
              | (with_reducible refine Rg.calm_normal ?_))
            refine hK _ _ (Rg.Keep.refl _) ?_
            clear hK
            go_wp2_with (first
              | ((with_reducible refine Rg.plan_pure ?_ ?_ ?_); kernel_rfl; kernel_rfl; intro _ _)
              | ((with_reducible refine Rg.plan_take ?_ ?_ ?_); kernel_rfl; kernel_rfl; intro _ _)
              | ((with_reducible refine Rg.plan_keep ?_ ?_); kernel_rfl; intro K hK)
              | (refine hK _ _ (Rg.Keep.refl _) ?_; clear hK)
              | (refine hK _ _ (Rg.Keep.of_below (by assumption)) ?_; clear hK)
              | ((with_reducible refine Rg.plan_skip ?_ ?_); kernel_rfl)
              | (with_reducible refine Rg.plan_done ?_)
              | (with_reducible refine Rg.calm_normal ?_))
            refine hK _ _ (Rg.Keep.refl _) ?_
            clear hK
            go_wp2_with (first
              | ((with_reducible refine Rg.plan_pure ?_ ?_ ?_); kernel_rfl; kernel_rfl; intro _ _)
              | ((with_reducible refine Rg.plan_take ?_ ?_ ?_); kernel_rfl; kernel_rfl; intro _ _)
              | ((with_reducible refine Rg.plan_keep ?_ ?_); kernel_rfl; intro K hK)
              | (refine hK _ _ (Rg.Keep.refl _) ?_; clear hK)
              | (refine hK _ _ (Rg.Keep.of_below (by assumption)) ?_; clear hK)
              | ((with_reducible refine Rg.plan_skip ?_ ?_); kernel_rfl)
              | (with_reducible refine Rg.plan_done ?_)
              | (with_reducible refine Rg.calm_normal ?_))
            refine (power_any W1.out.1 W1.out.2 _).mono ?_
            rintro e w9 ⟨rfl, rfl⟩
            dsimp only
            refine hK _ _ (Rg.Keep.refl _) ?_
            clear hK
            go_wp2_with (first
              | ((with_reducible refine Rg.plan_pure ?_ ?_ ?_); kernel_rfl; kernel_rfl; intro _ _)
              | ((with_reducible refine Rg.plan_take ?_ ?_ ?_); kernel_rfl; kernel_rfl; intro _ _)
              | ((with_reducible refine Rg.plan_keep ?_ ?_); kernel_rfl; intro K hK)
              | (refine hK _ _ (Rg.Keep.refl _) ?_; clear hK)
              | (refine hK _ _ (Rg.Keep.of_below (by assumption)) ?_; clear hK)
              | ((with_reducible refine Rg.plan_skip ?_ ?_); kernel_rfl)
              | (with_reducible refine Rg.plan_done ?_)
              | (with_reducible refine Rg.calm_normal ?_))
            refine (power_any W3.out.1 W3.out.2 _).mono ?_
            rw [HP13.out]
            rintro e w9 ⟨rfl, rfl⟩
            dsimp only
            refine hK _ _ (Rg.Keep.refl _) ?_
            clear hK
            go_wp2_with (first
              | ((with_reducible refine Rg.plan_pure ?_ ?_ ?_); kernel_rfl; kernel_rfl; intro _ _)
              | ((with_reducible refine Rg.plan_take ?_ ?_ ?_); kernel_rfl; kernel_rfl; intro _ _)
              | ((with_reducible refine Rg.plan_keep ?_ ?_); kernel_rfl; intro K hK)
              | (refine hK _ _ (Rg.Keep.refl _) ?_; clear hK)
              | (refine hK _ _ (Rg.Keep.of_below (by assumption)) ?_; clear hK)
              | ((with_reducible refine Rg.plan_skip ?_ ?_); kernel_rfl)
              | (with_reducible refine Rg.plan_done ?_)
              | (with_reducible refine Rg.calm_normal ?_))
            refine (power_any W0.out.1 W0.out.2 _).mono ?_
            rw [HP0.out]
            rintro e w9 ⟨rfl, rfl⟩
            dsimp only
            refine hK _ _ (Rg.Keep.refl _) ?_
            clear hK
            go_wp2_with (first
              | ((with_reducible refine Rg.plan_pure ?_ ?_ ?_); kernel_rfl; kernel_rfl; intro _ _)
              | ((with_reducible refine Rg.plan_take ?_ ?_ ?_); kernel_rfl; kernel_rfl; intro _ _)
              | ((with_reducible refine Rg.plan_keep ?_ ?_); kernel_rfl; intro K hK)
              | (refine hK _ _ (Rg.Keep.refl _) ?_; clear hK)
              | (refine hK _ _ (Rg.Keep.of_below (by assumption)) ?_; clear hK)
              | ((with_reducible refine Rg.plan_skip ?_ ?_); kernel_rfl)
              | (with_reducible refine Rg.plan_done ?_)
              | (with_reducible refine Rg.calm_normal ?_))
            refine (awake_any _).mono ?_
            rintro e w9 ⟨rfl, hb9⟩
            have HB9 := Lib.hid (hbk.drew.trans (hb9.mono (by have := hbk.size; simpa using this)))
            have HB9' := Lib.hid hb9
            clear hb9
            dsimp only
            refine hK _ _ (Rg.Keep.of_below HB9'.out) ?_
            clear hK
            go_wp2_with (first
              | ((with_reducible refine Rg.plan_pure ?_ ?_ ?_); kernel_rfl; kernel_rfl; intro _ _)
              | ((with_reducible refine Rg.plan_take ?_ ?_ ?_); kernel_rfl; kernel_rfl; intro _ _)
              | ((with_reducible refine Rg.plan_keep ?_ ?_); kernel_rfl; intro K hK)
              | (refine hK _ _ (Rg.Keep.refl _) ?_; clear hK)
              | (refine hK _ _ (Rg.Keep.of_below (by assumption)) ?_; clear hK)
              | ((with_reducible refine Rg.plan_skip ?_ ?_); kernel_rfl)
              | (with_reducible refine Rg.plan_done ?_)
              | (with_reducible refine Rg.calm_normal ?_))
            go_ret
            exact ⟨rfl, HB9.out⟩
end Go.Proofs.Ytenoldpfclmedaa
