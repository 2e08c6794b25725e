/- LibE; VltNL. -/
import Derived.Test.YtjlpppnpdgenfaaMva1
import Derived.Test.YtjlpppnpdgenfaaMva22
import Derived.Test.YtjlpppnpdgenfaaMvaLibF
section
/- Arrays held against one another by == : rows of bytes. Over any program. -/
namespace Go.Rw
open Go Go.RowKit
variable {P : Program}

theorem run_equalIn_row {t e : TypeId} {len n : Nat} (d : Nat) (xs ys : Array Value) (E : Nat → Bool) (hu : P.underlying t = some (.array len e)) (hn : (P.info? e).map (·.size) = some n)
    (h : ∀ i, i < len → ∀ w, ∃ a b, (part e xs (i * n)).run P w = .ok a w ∧ (part e ys (i * n)).run P w = .ok b w ∧ (Op.equalIn d e a b).run P w = .ok (E i) w) (w : World) :
    (Op.equalIn (d + 1) t (.agg xs) (.agg ys)).run P w = .ok ((List.range len).all E) w := by
  have hs : ∀ w, (sizeOf e).run P w = .ok n w := fun w => by
    cases hq : P.info? e with
    | none => simp [hq] at hn
    | some i => simp [hq] at hn; simp [sizeOf, typeInfo, hq, hn]
  have hsz : Std.Legacy.Range.size [:len] = len := by simp [Std.Legacy.Range.size]
  simp only [Op.equalIn, Sem.run_bind, run_underlying hu, Result.andThen_ok, hs, Std.Legacy.Range.forIn_eq_forIn_range', hsz, List.range_eq_range']
  have hm : ∀ i ∈ List.range' 0 len 1, i < len := fun i hi => by simpa using hi
  generalize List.range' 0 len 1 = l at *
  induction l with
  | nil => simp
  | cons i l ih =>
    obtain ⟨a, b, h1, h2, h3⟩ := h i (hm i (by simp)) w
    simp only [List.forIn_cons, Sem.run_bind, h1, h2, h3, Result.andThen_ok, List.all_cons]
    cases E i
    · simp only [Bool.not_false, if_true, Sem.run_pure, Result.andThen_ok, Bool.false_and]
    · simp only [Bool.not_true, Bool.false_eq_true, if_false, Sem.run_pure, Result.andThen_ok, Bool.true_and]
      exact ih fun j hj => hm j (by simp [hj])

theorem part_cell {e : TypeId} {k : IntKind} (hu : P.underlying e = some (.int k)) (xs : Array Value) (o : Nat) (v : Value) (h : xs[o]? = some v) (w : World) : (part e xs o).run P w = .ok v w := by
  have ha : (isAgg e).run P w = .ok false w := by unfold isAgg; rw [Sem.run_bind, run_underlying hu w]; rfl
  unfold part
  rw [Sem.run_bind, ha]
  simp only [Result.andThen_ok, Bool.false_eq_true, if_false, h, Sem.run_pure]
theorem all_beq (a b : List UInt8) (n : Nat) (ha : a.length = n) (hb : b.length = n) : ((List.range n).all fun i => nth a i == nth b i) = (a == b) := by
  rw [Bool.eq_iff_iff]
  simp only [List.all_eq_true, List.mem_range, beq_iff_eq]
  constructor
  · intro h
    apply List.ext_getElem (by omega)
    intro i h1 h2
    have := h i (by omega)
    simpa [nth, h1, h2] using this
  · rintro rfl i _; rfl
/-- Arrays of bytes. -/
theorem run_equalIn_bytes {t e : TypeId} {n : Nat} (d : Nat) (hu : P.underlying t = some (.array n e)) (he : P.underlying e = some (.int .u8)) (hn : (P.info? e).map (·.size) = some 1)
    (a b : List UInt8) (ha : a.length = n) (hb : b.length = n) (w : World) : (Op.equalIn (d + 2) t (.agg (bvs a)) (.agg (bvs b))).run P w = .ok (a == b) w := by
  rw [run_equalIn_row (d + 1) _ _ (fun i => nth a i == nth b i) hu hn ?_ w, all_beq a b n ha hb]
  intro i hi w
  have e1 : (bvs a)[i * 1]? = some (.int .u8 (n8 (nth a i) : Nat)) := by rw [Nat.mul_one, bvs_getElem?, if_pos (by omega)]
  have e2 : (bvs b)[i * 1]? = some (.int .u8 (n8 (nth b i) : Nat)) := by rw [Nat.mul_one, bvs_getElem?, if_pos (by omega)]
  exact ⟨_, _, part_cell he _ _ _ e1 w, part_cell he _ _ _ e2 w, by rw [run_equalIn_int w d e .u8 .u8 _ _ he, n8_ibeq]⟩
theorem part_row {e : TypeId} {m : Nat} (A : Agg P e m) (xs : Array Value) (o : Nat) (w : World) : (part e xs o).run P w = .ok (.agg (xs.extract o (o + m))) w := by
  obtain ⟨dd, hu, hd⟩ := A.und
  have ha : (isAgg e).run P w = .ok true w := by
    unfold isAgg; rw [Sem.run_bind, run_underlying hu w]
    cases dd <;> simp_all [TypeDesc.isRow]
  have hs : (sizeOf e).run P w = .ok m w := by
    have := A.size
    cases hq : P.info? e with
    | none => simp [hq] at this
    | some i => simp [hq] at this; simp [sizeOf, typeInfo, hq, this]
  unfold part
  rw [Sem.run_bind, ha]
  simp only [Result.andThen_ok, if_true]
  rw [Sem.run_bind, hs]
  simp only [Result.andThen_ok, Sem.run_pure]
/-- Arrays of arrays of bytes. -/
theorem run_equalIn_bytes2 {t r e : TypeId} {n m : Nat} (d : Nat) (hu : P.underlying t = some (.array n r)) (hr : P.underlying r = some (.array m e)) (A : Agg P r m) (he : P.underlying e = some (.int .u8)) (hn : (P.info? e).map (·.size) = some 1)
    (a b : List UInt8) (ha : a.length = n * m) (hb : b.length = n * m) (w : World) : (Op.equalIn (d + 3) t (.agg (bvs a)) (.agg (bvs b))).run P w = .ok (a == b) w := by
  rw [run_equalIn_row (d + 2) _ _ (fun i => (a.take (i * m + m)).drop (i * m) == (b.take (i * m + m)).drop (i * m)) hu A.size ?_ w]
  · congr 1
    rw [Bool.eq_iff_iff]
    simp only [List.all_eq_true, List.mem_range, beq_iff_eq]
    constructor
    · intro h
      apply List.ext_getElem (by omega)
      intro p h1 h2
      rcases Nat.eq_zero_or_pos m with hm | hm
      · subst hm; omega
      have hq : p / m < n := Nat.div_lt_of_lt_mul (by rw [Nat.mul_comm]; omega)
      have e1 := congrArg (fun l => l[p % m]?) (h (p / m) hq)
      have hp : p / m * m + p % m = p := by rw [Nat.mul_comm]; exact Nat.div_add_mod p m
      have hpm := Nat.mod_lt p hm
      simp only [List.getElem?_drop, List.getElem?_take, hp] at e1
      rw [if_pos (by omega), if_pos (by omega)] at e1
      simpa [h1, h2] using e1
    · rintro rfl i _; rfl
  · intro i hi w
    have hle : i * m + m ≤ n * m := by
      have := Nat.mul_le_mul_right m (show i + 1 ≤ n by omega)
      rw [Nat.add_mul] at this; omega
    exact ⟨_, _, part_row A _ _ w, part_row A _ _ w, by
      rw [bvs_extract, bvs_extract]
      exact run_equalIn_bytes d hr he hn _ _ (by simp; omega) (by simp; omega) w⟩
end Go.Rw
end
section
/- The walk of VaultNonces: each number's nonce is the first one crossed with it. -/
namespace Vlt
open Go Go.Rw Aes Hdr
theorem nonce_len (iv : List UInt8) (u : UInt64) : (nonce iv u).length = iv.length := nv_length iv u 8
theorem nonce_nth (iv : List UInt8) (hl : iv.length = 12) (u : UInt64) (j : Nat) : nth (nonce iv u) j = if 4 ≤ j ∧ j < 12 then nth iv j ^^^ nb u (j - 4) else nth iv j := by
  have := nv_nth iv u hl 8 (by omega) j
  exact this
theorem nb_n8 (u : UInt64) (k : Nat) : n8 (nb u k) = n64 u / 2 ^ (56 - 8 * k) % 256 := by
  unfold nb; rw [n8_low8, n64_shr64]
theorem nonce_zero (iv : List UInt8) (hl : iv.length = 12) : nonce iv 0 = iv := by
  apply ext_nth (nonce_len iv 0)
  intro j _
  rw [nonce_nth iv hl]
  split
  · have e : nb 0 (j - 4) = 0 := n8_inj (by rw [nb_n8]; simp [n64]; rfl)
    rw [e, UInt8.xor_zero]
  · rfl
theorem nonce_back (iv : List UInt8) (hl : iv.length = 12) (u : UInt64) : nonce (nonce iv u) u = iv := by
  apply ext_nth (by rw [nonce_len, nonce_len])
  intro j _
  rw [nonce_nth _ (by rw [nonce_len]; exact hl), nonce_nth iv hl]
  split
  · rw [UInt8.xor_assoc, UInt8.xor_self, UInt8.xor_zero]
  · rfl
/-- A number's first bytes. -/
def pfx (u : UInt64) (k : Nat) : Nat := n64 u / 2 ^ (64 - 8 * k)
theorem pfx_zero (u : UInt64) : pfx u 0 = 0 := by
  have h : n64 u < 18446744073709551616 := u.toNat_lt
  unfold pfx; exact Nat.div_eq_of_lt h
theorem pfx_eight (u : UInt64) : pfx u 8 = n64 u := by unfold pfx; simp
theorem pfx_succ (u : UInt64) (k : Nat) (h : k < 8) : pfx u (k + 1) = pfx u k * 256 + n8 (nb u k) := by
  rw [nb_n8]
  unfold pfx
  have e : 2 ^ (64 - 8 * k) = 2 ^ (56 - 8 * k) * 256 := by
    rw [show 64 - 8 * k = (56 - 8 * k) + 8 by omega, Nat.pow_add]
  rw [show 64 - 8 * (k + 1) = 56 - 8 * k by omega, e, ← Nat.div_div_eq_div_mul]
  omega
theorem pfx_lt (u : UInt64) (k : Nat) (h : k < 8) : pfx u k < 72057594037927936 := by
  have hu : n64 u < 18446744073709551616 := u.toNat_lt
  unfold pfx
  have h2 : 2 ^ 8 ≤ 2 ^ (64 - 8 * k) := Nat.pow_le_pow_right (by decide) (by omega)
  have h3 : n64 u / 2 ^ (64 - 8 * k) ≤ n64 u / 2 ^ 8 := Nat.div_le_div_left h2 (by decide)
  omega
theorem nonce_inj (iv : List UInt8) (hl : iv.length = 12) (a b : UInt64) : (nonce iv a == nonce iv b) = (a == b) := by
  rw [Bool.eq_iff_iff]
  simp only [beq_iff_eq]
  constructor
  · intro h
    have hk : ∀ k, k ≤ 8 → pfx a k = pfx b k := by
      intro k
      induction k with
      | zero => intro _; rw [pfx_zero, pfx_zero]
      | succ k ih =>
        intro hk
        rw [pfx_succ a k (by omega), pfx_succ b k (by omega), ih (by omega)]
        have e := congrArg (fun l => nth l (4 + k)) h
        simp only [nonce_nth iv hl, if_pos (show 4 ≤ 4 + k ∧ 4 + k < 12 by omega), Nat.add_sub_cancel_left] at e
        have e2 : nb a k = nb b k := by
          have := congrArg (fun x => nth iv (4 + k) ^^^ x) e
          simpa only [← UInt8.xor_assoc, UInt8.xor_self, UInt8.zero_xor] using this
        rw [e2]
    have := hk 8 (Nat.le_refl _)
    rw [pfx_eight, pfx_eight] at this
    exact UInt64.toNat_inj.1 this
  · intro h; rw [h]
end Vlt
namespace Go.Proofs.Ytjlpppnpdgenfaa
open Go.RowKit Go.Rw Aes Hdr Vlt
theorem infoB : (Try.prog.info? 5).map (·.size) = some 1 := by kernel_rfl
theorem gEq12 (a b : List UInt8) (ha : a.length = 12) (hb : b.length = 12) (w : World) : (Op.equalIn 10000 23 (.agg (bvs a)) (.agg (bvs b))).run Try.prog w = .ok (a == b) w :=
  run_equalIn_bytes 9998 Try.underlying23 Try.underlying5 infoB a b ha hb w
attribute [local go_sem high] gEq12
attribute [local go_sem ↓] ld12 st12 al12 shift_shl64 shift_shr8 bvs_getElem?
attribute [local go_sem] rld12 rst12 ral12 setRow_alloc_at setRow_alloc_past setRow_drew bvs_setn
set_option maxRecDepth 100000 in
set_option maxHeartbeats 4000000 in
theorem noncesLaw_any (iv : List UInt8) (hl : iv.length = 12) (a b : UInt64) (w : World) :
    Calls Try.prog 7 #[.agg (bvs iv), .int .u64 (n64 a : Nat), .int .u64 (n64 b : Nat)] w fun e w' => e = .returned (.bool true) ∧ Below w.heap.size w w' := by
  obtain ⟨X, hX⟩ : ∃ X, nonce iv a = X := ⟨_, rfl⟩
  obtain ⟨Y, hY⟩ : ∃ Y, nonce iv b = Y := ⟨_, rfl⟩
  have hXl : X.length = 12 := by rw [← hX]; exact (nonce_len iv a).trans hl
  have hYl : Y.length = 12 := by rw [← hY]; exact (nonce_len iv b).trans hl
  have hZ := nonce_zero iv hl
  have HX := Lib.hid hX
  have HY := Lib.hid hY
  have HZ := Lib.hid hZ
  clear hX hY hZ
  go_enter Try.func7, Try.ntmps7
  go_wp2_with fail
  refine Rg.wp_region_flo [(0, 0), (1, 3), (3, 0), (4, 3), (6, 0)] [
      ⟨2, 14, [], false, fun v _ => v = .agg (bvs X)⟩,
      ⟨5, 17, [2], false, fun v _ => v = .agg (bvs Y)⟩,
      ⟨7, 19, [5], false, fun v _ => v = .agg (bvs iv)⟩,
      ⟨8, 7, [], true, fun v w' => ∃ B, v = .pointer (some ⟨B, 0, none⟩) ∧ row? w' B = some (bvs (zeros 12))⟩,
      ⟨9, 8, [], true, fun v w' => ∃ B, v = .pointer (some ⟨B, 0, none⟩) ∧ row? w' B = some (bvs (zeros 12))⟩,
      ⟨10, 9, [], true, fun v w' => ∃ B, v = .pointer (some ⟨B, 0, none⟩) ∧ row? w' B = some (bvs (zeros 12))⟩] [(2, 14, []), (5, 17, [2]), (7, 19, [5]), (8, 7, []), (9, 8, []), (10, 9, [])] [11, 12, 13] (by kernel_rfl) (by kernel_rfl) rfl ?_
  simp only [Rg.row, Rg.PT.map, List.getD_cons_zero, List.getD_cons_succ]
  go_wp2_with (first
    | ((with_reducible refine Rg.plan_pure ?_ ?_ ?_); kernel_rfl; kernel_rfl; intro _ _)
    | ((with_reducible refine Rg.plan_take ?_ ?_ ?_); kernel_rfl; kernel_rfl; intro _ _)
    | ((with_reducible refine Rg.plan_keep ?_ ?_); kernel_rfl; intro K hK)
    | (refine hK _ _ (Rg.Keep.refl _) ?_; clear hK)
    | (refine hK _ _ (Rg.Keep.of_below (by assumption)) ?_; clear hK)
    | ((with_reducible refine Rg.plan_skip ?_ ?_); kernel_rfl)
    | (with_reducible refine Rg.plan_done ?_)
    | (with_reducible refine Rg.calm_normal ?_))
  refine Rg.phase_done (Rg.Phase.mk ?_ ?_ ?_)
  · refine List.forall_mem_cons.2 ⟨?_, List.forall_mem_cons.2 ⟨?_, List.forall_mem_cons.2 ⟨?_, List.forall_mem_cons.2 ⟨?_, List.forall_mem_cons.2 ⟨?_, List.forall_mem_cons.2 ⟨?_, fun r hr => (by cases hr)⟩⟩⟩⟩⟩⟩
    · exact fun v w1 w2 _ h => h
    · exact fun v w1 w2 _ h => h
    · exact fun v w1 w2 _ h => h
    · rintro v w1 w2 hb ⟨B, e, h⟩; exact ⟨B, e, Rg.stable_row hb h⟩
    · rintro v w1 w2 hb ⟨B, e, h⟩; exact ⟨B, e, Rg.stable_row hb h⟩
    · rintro v w1 w2 hb ⟨B, e, h⟩; exact ⟨B, e, Rg.stable_row hb h⟩
  · refine List.forall_mem_cons.2 ⟨?_, List.forall_mem_cons.2 ⟨?_, List.forall_mem_cons.2 ⟨?_, List.forall_mem_cons.2 ⟨?_, List.forall_mem_cons.2 ⟨?_, List.forall_mem_cons.2 ⟨?_, fun r hr => (by cases hr)⟩⟩⟩⟩⟩⟩
    · intro us wx hbx hdep K hK
      refine Rg.exec_call (args := #[.agg (bvs iv), .int .u64 (n64 a : Nat)]) (by simp [go_sem, execOp, Rg.puts]) (nonce_any iv hl a _) ?_
      rintro e wy ⟨rfl, hy⟩
      exact ⟨_, rfl, hK _ _ _ rfl (by rw [HX.out]) hy (fun h => (by cases h))⟩
    · intro us wx hbx hdep K hK
      refine Rg.exec_call (args := #[.agg (bvs iv), .int .u64 (n64 b : Nat)]) (by simp [go_sem, execOp, Rg.puts]) (nonce_any iv hl b _) ?_
      rintro e wy ⟨rfl, hy⟩
      exact ⟨_, rfl, hK _ _ _ rfl (by rw [HY.out]) hy (fun h => (by cases h))⟩
    · intro us wx hbx hdep K hK
      refine Rg.exec_call (args := #[.agg (bvs iv), .int .u64 (n64 0 : Nat)]) (by simp [go_sem, execOp, Rg.puts]; rfl) (nonce_any iv hl 0 _) ?_
      rintro e wy ⟨rfl, hy⟩
      exact ⟨_, rfl, hK _ _ _ rfl (by rw [HZ.out]) hy (fun h => (by cases h))⟩
    · intro us wx hbx hdep K hK
      exact Rg.exec_value (by simp [go_sem, execOp]; rfl) (hK _ _ _ rfl ⟨_, rfl, row?_alloc_at _ _ _ _ rfl⟩ ((Below.refl _ _).alloc (Nat.le_refl _) _) (fun _ => ⟨Nat.le_refl _, by simp [Rg.vblk]⟩))
    · intro us wx hbx hdep K hK
      exact Rg.exec_value (by simp [go_sem, execOp]; rfl) (hK _ _ _ rfl ⟨_, rfl, row?_alloc_at _ _ _ _ rfl⟩ ((Below.refl _ _).alloc (Nat.le_refl _) _) (fun _ => ⟨Nat.le_refl _, by simp [Rg.vblk]⟩))
    · intro us wx hbx hdep K hK
      exact Rg.exec_value (by simp [go_sem, execOp]; rfl) (hK _ _ _ rfl ⟨_, rfl, row?_alloc_at _ _ _ _ rfl⟩ ((Below.refl _ _).alloc (Nat.le_refl _) _) (fun _ => ⟨Nat.le_refl _, by simp [Rg.vblk]⟩))
  · intro us wZ hbZ hJ hfr hne
    have hn89 : Rg.vblk (us 8) ≠ Rg.vblk (us 9) := hne _ (List.getElem_mem (n := 3) (by simp)) _ (List.getElem_mem (n := 4) (by simp)) (by simp) rfl rfl
    have hn80 : Rg.vblk (us 8) ≠ Rg.vblk (us 10) := hne _ (List.getElem_mem (n := 3) (by simp)) _ (List.getElem_mem (n := 5) (by simp)) (by simp) rfl rfl
    have hn90 : Rg.vblk (us 9) ≠ Rg.vblk (us 10) := hne _ (List.getElem_mem (n := 4) (by simp)) _ (List.getElem_mem (n := 5) (by simp)) (by simp) rfl rfl
    have hf8 : (w.alloc (.cells (bvs iv) 23)).drew.heap.size ≤ Rg.vblk (us 8) := (hfr _ (List.getElem_mem (n := 3) (by simp)) rfl).1
    have hf9 : (w.alloc (.cells (bvs iv) 23)).drew.heap.size ≤ Rg.vblk (us 9) := (hfr _ (List.getElem_mem (n := 4) (by simp)) rfl).1
    have hf0 : (w.alloc (.cells (bvs iv) 23)).drew.heap.size ≤ Rg.vblk (us 10) := (hfr _ (List.getElem_mem (n := 5) (by simp)) rfl).1
    simp only [List.forall_mem_cons] at hJ
    obtain ⟨e2, e5, e7, ⟨BX, e8, rX⟩, ⟨BY, e9, rY⟩, ⟨BZ, e10, rZ⟩, -⟩ := hJ
    rw [e8] at hn89 hn80 hf8
    rw [e9] at hn89 hn90 hf9
    rw [e10] at hn80 hn90 hf0
    simp only [Rg.vblk] at hn89 hn80 hn90 hf8 hf9 hf0
    simp at hf8 hf9 hf0
    simp only [Rg.puts, List.map_cons, List.map_nil, List.getD_cons_zero, List.getD_cons_succ]
    simp only [e2, e5, e7, e8, e9, e10]
    clear hfr hne e2 e5 e7 e8 e9 e10
    have rI : row? wZ w.heap.size = some (bvs iv) := Rg.stable_row hbZ ((row?_drew _ _).trans (row?_alloc_at _ _ _ _ rfl))
    have bZ : Below w.heap.size w wZ := ((Below.refl w.heap.size w).alloc (Nat.le_refl _) (.cells (bvs iv) 23)).drew.trans (hbZ.mono (B' := w.heap.size) (by simp))
    have rY1 : row? (wZ.setRow BX (bvs X)) BY = some (bvs (zeros 12)) := by rw [row?_setRow_ne _ _ _ _ (fun e => hn89 e.symm)]; exact rY
    have rZ1 : row? ((wZ.setRow BX (bvs X)).setRow BY (bvs Y)) BZ = some (bvs (zeros 12)) := by rw [row?_setRow_ne _ _ _ _ (fun e => hn90 e.symm), row?_setRow_ne _ _ _ _ (fun e => hn80 e.symm)]; exact rZ
    go_wp2_with (first
      | ((with_reducible refine Rg.plan_pure ?_ ?_ ?_); kernel_rfl; kernel_rfl; intro _ _)
      | ((with_reducible refine Rg.plan_take ?_ ?_ ?_); kernel_rfl; kernel_rfl; intro _ _)
      | ((with_reducible refine Rg.plan_keep ?_ ?_); kernel_rfl; intro K hK)
      | (refine hK _ _ (Rg.Keep.refl _) ?_; clear hK)
      | (refine hK _ _ (Rg.Keep.of_below (by assumption)) ?_; clear hK)
      | ((with_reducible refine Rg.plan_skip ?_ ?_); kernel_rfl)
      | (with_reducible refine Rg.plan_done ?_)
      | (with_reducible refine Rg.calm_normal ?_))
    have k1 : row? (((wZ.setRow BX (bvs X)).setRow BY (bvs Y)).setRow BZ (bvs iv)) BX = some (bvs X) := by rw [row?_setRow_ne _ _ _ _ hn80, row?_setRow_ne _ _ _ _ hn89]; exact row?_setRow_eq rX
    have k2 : row? (((wZ.setRow BX (bvs X)).setRow BY (bvs Y)).setRow BZ (bvs iv)) BY = some (bvs Y) := by rw [row?_setRow_ne _ _ _ _ hn90]; exact row?_setRow_eq rY1
    have k3 : row? (((wZ.setRow BX (bvs X)).setRow BY (bvs Y)).setRow BZ (bvs iv)) BZ = some (bvs iv) := row?_setRow_eq rZ1
    have k4 : row? (((wZ.setRow BX (bvs X)).setRow BY (bvs Y)).setRow BZ (bvs iv)) w.heap.size = some (bvs iv) := by rw [row?_setRow_ne _ _ _ _ (by omega), row?_setRow_ne _ _ _ _ (by omega), row?_setRow_ne _ _ _ _ (by omega)]; exact rI
    have k5 : Below w.heap.size w (((wZ.setRow BX (bvs X)).setRow BY (bvs Y)).setRow BZ (bvs iv)) := below_setRow (below_setRow (below_setRow bZ (by omega) _) (by omega) _) (by omega) _
    generalize (((wZ.setRow BX (bvs X)).setRow BY (bvs Y)).setRow BZ (bvs iv)) = W at k1 k2 k3 k4 k5 ⊢
    clear rX rY rZ rI rY1 rZ1 bZ hbZ
    have hXn : ∀ k, k < 8 → nth X (4 + k) ^^^ nth iv (4 + k) = nb a k := fun k hk => by
      rw [← HX.out, nonce_nth iv hl, if_pos (by omega), Nat.add_sub_cancel_left, UInt8.xor_comm, ← UInt8.xor_assoc, UInt8.xor_self, UInt8.zero_xor]
    have HXN := Lib.hid hXn
    clear hXn
    go_loopw [10, 11] (fun va v wr => ∃ k : Nat, k ≤ 8 ∧ va = .int .u64 (pfx a k : Nat) ∧ v = .int .i64 (4 + k : Nat) ∧ row? wr BX = some (bvs X) ∧ row? wr BY = some (bvs Y) ∧ row? wr BZ = some (bvs iv) ∧ row? wr w.heap.size = some (bvs iv) ∧ Below w.heap.size w wr) (fun _ v _ => 12 - (intOf v).toNat)
    case atStart => exact ⟨0, by omega, by rw [pfx_zero]; rfl, rfl, k1, k2, k3, k4, k5⟩
    case round =>
      obtain ⟨k, hk, rfl, rfl, r1, r2, r3, r4, hb⟩ := hrel
      by_cases hlt : k < 8
      · have c1 : wr.cell? ⟨BX, 4 + k, none⟩ = some (.int .u8 (n8 (nth X (4 + k)) : Nat)) := by rw [row?_cell r1, bvs_getElem?, if_pos (by omega)]
        have c2 : wr.cell? ⟨w.heap.size, 4 + k, none⟩ = some (.int .u8 (n8 (nth iv (4 + k)) : Nat)) := by rw [row?_cell r4, bvs_getElem?, if_pos (by omega)]
        have hst := num_step (pfx a k) (nb a k) (pfx_lt a k hlt)
        rw [← pfx_succ a k hlt] at hst
        obtain ⟨Q, hQ⟩ : ∃ Q : UInt64, Q = UInt64.ofNat (pfx a k) := ⟨_, rfl⟩
        have hq : pfx a k = n64 Q := by rw [hQ]; exact (n64_ofNat _ (by have := pfx_lt a k hlt; omega)).symm
        rw [← hQ] at hst
        rw [hq]
        have HS := Lib.hid hst
        have HR := Lib.hid (And.intro r1 (And.intro r2 (And.intro r3 r4)))
        have HXk := HXN.out k hlt
        have hp : decide ((4 : Int) + (k : Nat) < 12) = true := decide_eq_true (by omega)
        have HLT := Lib.hid hlt
        clear hq hQ hst r1 r2 r3 r4
        go_wp2_with fail
        refine Rg.wp_region_plan (Rg.row [(0, 3), (1, 3), (2, 3), (3, 3), (4, 0), (5, 3), (6, 3), (7, 0), (8, 3), (9, 3), (10, 3), (11, 3)] []) [] (by kernel_rfl) (by kernel_rfl) ?_
        simp only [Rg.row, Rg.PT.map, List.map_nil, List.getD_cons_zero, List.getD_cons_succ]
        go_wp2_with (first
          | ((with_reducible refine Rg.plan_pure ?_ ?_ ?_); kernel_rfl; kernel_rfl; intro _ _)
          | ((with_reducible refine Rg.plan_take ?_ ?_ ?_); kernel_rfl; kernel_rfl; intro _ _)
          | ((with_reducible refine Rg.plan_keep ?_ ?_); kernel_rfl; intro K hK)
          | (refine hK _ _ (Rg.Keep.refl _) ?_; clear hK)
          | (refine hK _ _ (Rg.Keep.of_below (by assumption)) ?_; clear hK)
          | ((with_reducible refine Rg.plan_skip ?_ ?_); kernel_rfl)
          | (with_reducible refine Rg.plan_done ?_)
          | (with_reducible refine Rg.calm_normal ?_))
        go_roundw
        case rel => exact ⟨k + 1, HLT.out, by rw [← HS.out], by go_num, (row?_drew _ _).trans HR.out.1, (row?_drew _ _).trans HR.out.2.1, (row?_drew _ _).trans HR.out.2.2.1, (row?_drew _ _).trans HR.out.2.2.2, hb.drew⟩
        case measure => have := HLT.out; simp [intOf]; omega
      · obtain rfl : k = 8 := by omega
        rw [pfx_eight]
        have hxy : (X == Y) = (a == b) := by rw [← HX.out, ← HY.out]; exact nonce_inj iv hl a b
        have hback := fun W => nonce_any X hXl a W
        rw [show nonce X a = iv by rw [← HX.out]; exact nonce_back iv hl a] at hback
        have HBK := Lib.hid hback
        have n0 : nth X 0 = nth iv 0 := by rw [← HX.out, nonce_nth iv hl, if_neg (by omega)]
        have n3 : nth X 3 = nth iv 3 := by rw [← HX.out, nonce_nth iv hl, if_neg (by omega)]
        have c1 : wr.cell? ⟨BX, 0, none⟩ = some (.int .u8 (n8 (nth iv 0) : Nat)) := by rw [row?_cell r1, bvs_getElem?, if_pos (by omega), n0]
        have c2 : wr.cell? ⟨w.heap.size, 0, none⟩ = some (.int .u8 (n8 (nth iv 0) : Nat)) := by rw [row?_cell r4, bvs_getElem?, if_pos (by omega)]
        have c3 : wr.cell? ⟨BX, 3, none⟩ = some (.int .u8 (n8 (nth iv 3) : Nat)) := by rw [row?_cell r1, bvs_getElem?, if_pos (by omega), n3]
        have c4 : wr.cell? ⟨w.heap.size, 3, none⟩ = some (.int .u8 (n8 (nth iv 3) : Nat)) := by rw [row?_cell r4, bvs_getElem?, if_pos (by omega)]
        have HRR := Lib.hid (And.intro r1 (And.intro r2 (And.intro r3 r4)))
        clear n0 n3 HXN hback HX HY HZ
        cases hab : (a == b) with
        | true =>
          obtain rfl : a = b := by simpa using hab
          rw [hab] at hxy
          go_wp2_with fail
          refine Rg.wp_region_plan (Rg.row [(0, 3), (1, 3), (2, 3), (3, 3), (4, 0), (5, 0), (6, 1), (7, 3), (8, 3), (9, 3), (10, 0), (11, 3), (12, 0), (13, 3), (14, 3), (15, 3), (16, 3), (17, 0), (18, 3), (19, 0), (20, 3), (21, 3), (22, 3), (23, 0), (24, 0), (26, 3), (27, 3), (28, 3), (25, 1), (29, 3), (30, 3), (31, 3), (32, 0), (33, 3), (35, 0), (34, 1), (36, 1), (37, 3), (38, 3), (39, 1), (40, 3), (41, 3)] []) [] (by kernel_rfl) (by kernel_rfl) ?_
          simp only [Rg.row, Rg.PT.map, List.map_nil, List.getD_cons_zero, List.getD_cons_succ]
          go_wp2_with (first
            | ((with_reducible refine Rg.plan_pure ?_ ?_ ?_); kernel_rfl; kernel_rfl; intro _ _)
            | ((with_reducible refine Rg.plan_take ?_ ?_ ?_); kernel_rfl; kernel_rfl; intro _ _)
            | ((with_reducible refine Rg.plan_keep ?_ ?_); kernel_rfl; intro K hK)
            | (refine hK _ _ (Rg.Keep.refl _) ?_; clear hK)
            | (refine hK _ _ (Rg.Keep.of_below (by assumption)) ?_; clear hK)
            | ((with_reducible refine Rg.plan_skip ?_ ?_); kernel_rfl)
            | (with_reducible refine Rg.plan_done ?_)
            | (with_reducible refine Rg.calm_normal ?_))
          refine hK _ _ (Rg.Keep.refl _) ?_
          clear hK
          go_wp2_with (first
            | ((with_reducible refine Rg.plan_pure ?_ ?_ ?_); kernel_rfl; kernel_rfl; intro _ _)
            | ((with_reducible refine Rg.plan_take ?_ ?_ ?_); kernel_rfl; kernel_rfl; intro _ _)
            | ((with_reducible refine Rg.plan_keep ?_ ?_); kernel_rfl; intro K hK)
            | (refine hK _ _ (Rg.Keep.refl _) ?_; clear hK)
            | (refine hK _ _ (Rg.Keep.of_below (by assumption)) ?_; clear hK)
            | ((with_reducible refine Rg.plan_skip ?_ ?_); kernel_rfl)
            | (with_reducible refine Rg.plan_done ?_)
            | (with_reducible refine Rg.calm_normal ?_))
          refine hK _ _ (Rg.Keep.refl _) ?_
          clear hK
          go_wp2_with (first
            | ((with_reducible refine Rg.plan_pure ?_ ?_ ?_); kernel_rfl; kernel_rfl; intro _ _)
            | ((with_reducible refine Rg.plan_take ?_ ?_ ?_); kernel_rfl; kernel_rfl; intro _ _)
            | ((with_reducible refine Rg.plan_keep ?_ ?_); kernel_rfl; intro K hK)
            | (refine hK _ _ (Rg.Keep.refl _) ?_; clear hK)
            | (refine hK _ _ (Rg.Keep.of_below (by assumption)) ?_; clear hK)
            | ((with_reducible refine Rg.plan_skip ?_ ?_); kernel_rfl)
            | (with_reducible refine Rg.plan_done ?_)
            | (with_reducible refine Rg.calm_normal ?_))
          refine (HBK.out _).mono ?_
          rintro e wA ⟨rfl, hA⟩
          refine hK _ _ (Rg.Keep.of_below hA) ?_
          clear hK
          have rA : row? wA w.heap.size = some (bvs iv) := by rw [row?_below hA (row?_lt HRR.out.2.2.2)]; exact HRR.out.2.2.2
          have bA : Below w.heap.size w wA := hb.drew.trans (hA.mono hb.size)
          clear hA r1 r2 r3 r4 c1 c2 c3 c4
          go_wp2_with (first
            | ((with_reducible refine Rg.plan_pure ?_ ?_ ?_); kernel_rfl; kernel_rfl; intro _ _)
            | ((with_reducible refine Rg.plan_take ?_ ?_ ?_); kernel_rfl; kernel_rfl; intro _ _)
            | ((with_reducible refine Rg.plan_keep ?_ ?_); kernel_rfl; intro K hK)
            | (refine hK _ _ (Rg.Keep.refl _) ?_; clear hK)
            | (refine hK _ _ (Rg.Keep.of_below (by assumption)) ?_; clear hK)
            | ((with_reducible refine Rg.plan_skip ?_ ?_); kernel_rfl)
            | (with_reducible refine Rg.plan_done ?_)
            | (with_reducible refine Rg.calm_normal ?_))
          refine hK _ _ (Rg.Keep.refl _) ?_
          clear hK
          go_wp2_with (first
            | ((with_reducible refine Rg.plan_pure ?_ ?_ ?_); kernel_rfl; kernel_rfl; intro _ _)
            | ((with_reducible refine Rg.plan_take ?_ ?_ ?_); kernel_rfl; kernel_rfl; intro _ _)
            | ((with_reducible refine Rg.plan_keep ?_ ?_); kernel_rfl; intro K hK)
            | (refine hK _ _ (Rg.Keep.refl _) ?_; clear hK)
            | (refine hK _ _ (Rg.Keep.of_below (by assumption)) ?_; clear hK)
            | ((with_reducible refine Rg.plan_skip ?_ ?_); kernel_rfl)
            | (with_reducible refine Rg.plan_done ?_)
            | (with_reducible refine Rg.calm_normal ?_))
          refine (awake_any _).mono ?_
          rintro e wB ⟨rfl, hB⟩
          refine hK _ _ (Rg.Keep.of_below hB) ?_
          clear hK
          have bB : Below w.heap.size w wB := bA.trans (hB.mono bA.size)
          clear hB rA
          go_wp2_with (first
            | ((with_reducible refine Rg.plan_pure ?_ ?_ ?_); kernel_rfl; kernel_rfl; intro _ _)
            | ((with_reducible refine Rg.plan_take ?_ ?_ ?_); kernel_rfl; kernel_rfl; intro _ _)
            | ((with_reducible refine Rg.plan_keep ?_ ?_); kernel_rfl; intro K hK)
            | (refine hK _ _ (Rg.Keep.refl _) ?_; clear hK)
            | (refine hK _ _ (Rg.Keep.of_below (by assumption)) ?_; clear hK)
            | ((with_reducible refine Rg.plan_skip ?_ ?_); kernel_rfl)
            | (with_reducible refine Rg.plan_done ?_)
            | (with_reducible refine Rg.calm_normal ?_))
          go_ret
          exact ⟨rfl, bB⟩
        | false =>
          rw [hab] at hxy
          have hab2 : ((n64 a : Nat) : Int) ≠ (n64 b : Nat) := fun h => by
            have : a = b := UInt64.toNat_inj.1 (show n64 a = n64 b by omega)
            simp [this] at hab
          have hab3 : (((n64 a : Nat) : Int) == (n64 b : Nat)) = false := by simpa using hab2
          have hab4 : (n64 a == n64 b) = false := by simpa using fun h => hab2 (by rw [h])
          go_wp2_with fail
          refine Rg.wp_region_plan (Rg.row [(0, 3), (1, 3), (2, 3), (3, 3), (4, 0), (5, 0), (6, 1), (7, 3), (8, 3), (9, 3), (10, 0), (11, 3), (12, 0), (13, 3), (14, 3), (15, 3), (16, 3), (17, 0), (18, 3), (19, 0), (20, 3), (21, 3), (22, 3), (23, 0), (24, 0), (26, 3), (27, 3), (28, 3), (25, 1), (29, 3), (30, 3), (31, 3), (32, 0), (33, 3), (35, 0), (34, 1), (36, 1), (37, 3), (38, 3), (39, 1), (40, 3), (41, 3)] []) [] (by kernel_rfl) (by kernel_rfl) ?_
          simp only [Rg.row, Rg.PT.map, List.map_nil, List.getD_cons_zero, List.getD_cons_succ]
          go_wp2_with (first
            | ((with_reducible refine Rg.plan_pure ?_ ?_ ?_); kernel_rfl; kernel_rfl; intro _ _)
            | ((with_reducible refine Rg.plan_take ?_ ?_ ?_); kernel_rfl; kernel_rfl; intro _ _)
            | ((with_reducible refine Rg.plan_keep ?_ ?_); kernel_rfl; intro K hK)
            | (refine hK _ _ (Rg.Keep.refl _) ?_; clear hK)
            | (refine hK _ _ (Rg.Keep.of_below (by assumption)) ?_; clear hK)
            | ((with_reducible refine Rg.plan_skip ?_ ?_); kernel_rfl)
            | (with_reducible refine Rg.plan_done ?_)
            | (with_reducible refine Rg.calm_normal ?_))
          refine hK _ _ (Rg.Keep.refl _) ?_
          clear hK
          go_wp2_with (first
            | ((with_reducible refine Rg.plan_pure ?_ ?_ ?_); kernel_rfl; kernel_rfl; intro _ _)
            | ((with_reducible refine Rg.plan_take ?_ ?_ ?_); kernel_rfl; kernel_rfl; intro _ _)
            | ((with_reducible refine Rg.plan_keep ?_ ?_); kernel_rfl; intro K hK)
            | (refine hK _ _ (Rg.Keep.refl _) ?_; clear hK)
            | (refine hK _ _ (Rg.Keep.of_below (by assumption)) ?_; clear hK)
            | ((with_reducible refine Rg.plan_skip ?_ ?_); kernel_rfl)
            | (with_reducible refine Rg.plan_done ?_)
            | (with_reducible refine Rg.calm_normal ?_))
          refine hK _ _ (Rg.Keep.refl _) ?_
          clear hK
          go_wp2_with (first
            | ((with_reducible refine Rg.plan_pure ?_ ?_ ?_); kernel_rfl; kernel_rfl; intro _ _)
            | ((with_reducible refine Rg.plan_take ?_ ?_ ?_); kernel_rfl; kernel_rfl; intro _ _)
            | ((with_reducible refine Rg.plan_keep ?_ ?_); kernel_rfl; intro K hK)
            | (refine hK _ _ (Rg.Keep.refl _) ?_; clear hK)
            | (refine hK _ _ (Rg.Keep.of_below (by assumption)) ?_; clear hK)
            | ((with_reducible refine Rg.plan_skip ?_ ?_); kernel_rfl)
            | (with_reducible refine Rg.plan_done ?_)
            | (with_reducible refine Rg.calm_normal ?_))
          refine (HBK.out _).mono ?_
          rintro e wA ⟨rfl, hA⟩
          refine hK _ _ (Rg.Keep.of_below hA) ?_
          clear hK
          have rA : row? wA w.heap.size = some (bvs iv) := by rw [row?_below hA (row?_lt HRR.out.2.2.2)]; exact HRR.out.2.2.2
          have bA : Below w.heap.size w wA := hb.drew.trans (hA.mono hb.size)
          clear hA r1 r2 r3 r4 c1 c2 c3 c4
          go_wp2_with (first
            | ((with_reducible refine Rg.plan_pure ?_ ?_ ?_); kernel_rfl; kernel_rfl; intro _ _)
            | ((with_reducible refine Rg.plan_take ?_ ?_ ?_); kernel_rfl; kernel_rfl; intro _ _)
            | ((with_reducible refine Rg.plan_keep ?_ ?_); kernel_rfl; intro K hK)
            | (refine hK _ _ (Rg.Keep.refl _) ?_; clear hK)
            | (refine hK _ _ (Rg.Keep.of_below (by assumption)) ?_; clear hK)
            | ((with_reducible refine Rg.plan_skip ?_ ?_); kernel_rfl)
            | (with_reducible refine Rg.plan_done ?_)
            | (with_reducible refine Rg.calm_normal ?_))
          refine hK _ _ (Rg.Keep.refl _) ?_
          clear hK
          go_wp2_with (first
            | ((with_reducible refine Rg.plan_pure ?_ ?_ ?_); kernel_rfl; kernel_rfl; intro _ _)
            | ((with_reducible refine Rg.plan_take ?_ ?_ ?_); kernel_rfl; kernel_rfl; intro _ _)
            | ((with_reducible refine Rg.plan_keep ?_ ?_); kernel_rfl; intro K hK)
            | (refine hK _ _ (Rg.Keep.refl _) ?_; clear hK)
            | (refine hK _ _ (Rg.Keep.of_below (by assumption)) ?_; clear hK)
            | ((with_reducible refine Rg.plan_skip ?_ ?_); kernel_rfl)
            | (with_reducible refine Rg.plan_done ?_)
            | (with_reducible refine Rg.calm_normal ?_))
          refine (awake_any _).mono ?_
          rintro e wB ⟨rfl, hB⟩
          refine hK _ _ (Rg.Keep.of_below hB) ?_
          clear hK
          have bB : Below w.heap.size w wB := bA.trans (hB.mono bA.size)
          clear hB rA
          go_wp2_with (first
            | ((with_reducible refine Rg.plan_pure ?_ ?_ ?_); kernel_rfl; kernel_rfl; intro _ _)
            | ((with_reducible refine Rg.plan_take ?_ ?_ ?_); kernel_rfl; kernel_rfl; intro _ _)
            | ((with_reducible refine Rg.plan_keep ?_ ?_); kernel_rfl; intro K hK)
            | (refine hK _ _ (Rg.Keep.refl _) ?_; clear hK)
            | (refine hK _ _ (Rg.Keep.of_below (by assumption)) ?_; clear hK)
            | ((with_reducible refine Rg.plan_skip ?_ ?_); kernel_rfl)
            | (with_reducible refine Rg.plan_done ?_)
            | (with_reducible refine Rg.calm_normal ?_))
          go_ret
          exact ⟨rfl, bB⟩
end Go.Proofs.Ytjlpppnpdgenfaa
end
