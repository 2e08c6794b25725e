/- LibE; VltNL. -/
import Derived.Test.YtjlpppnpdgenfaaMvb1
import Derived.Test.YtjlpppnpdgenfaaMvb23
import Derived.Test.YtjlpppnpdgenfaaMvbLibF
section
namespace Go.Rw
open Go Go.RowKit
variable {P : Program}
theorem run_equalIn_row {t e : TypeId} {len n : Nat} (d : Nat) (xs ys : Array Value) (E : Nat → Bool) (hu : P.underlying t = some (.array len e)) (hn : (P.info? e).map (·.size) = some n)
  (h : ∀ i, i < len → ∀ w, ∃ a b, (part e xs (i * n)).run P w = .ok a w ∧ (part e ys (i * n)).run P w = .ok b w ∧ (Op.equalIn d e a b).run P w = .ok (E i) w) (w : World) :
  (Op.equalIn (d + 1) t (.agg xs) (.agg ys)).run P w = .ok ((List.range len).all E) w := by
 have hs : ∀ w, (sizeOf e).run P w = .ok n w := fun w => by
  cases hq : P.info? e with
  | none => simp [hq] at hn
  | some i => simp [hq] at hn; simp [sizeOf, typeInfo, hq, hn]
 have hsz : Std.Legacy.Range.size [:len] = len := by simp [Std.Legacy.Range.size]
 simp only [Op.equalIn, Sem.run_bind, run_underlying hu, Result.andThen_ok, hs, Std.Legacy.Range.forIn_eq_forIn_range', hsz, List.range_eq_range']
 have hm : ∀ i ∈ List.range' 0 len 1, i < len := fun i hi => by simpa using hi
 generalize List.range' 0 len 1 = l at *
 induction l with
 | nil => simp
 | cons i l ih =>
  obtain ⟨a, b, h1, h2, h3⟩ := h i (hm i (by simp)) w
  simp only [List.forIn_cons, Sem.run_bind, h1, h2, h3, Result.andThen_ok, List.all_cons]
  cases E i
  ·simp only [Bool.not_false, if_true, Sem.run_pure, Result.andThen_ok, Bool.false_and]
  ·simp only [Bool.not_true, Bool.false_eq_true, if_false, Sem.run_pure, Result.andThen_ok, Bool.true_and]
   exact ih fun j hj => hm j (by simp [hj])
theorem part_cell {e : TypeId} {k : IntKind} (hu : P.underlying e = some (.int k)) (xs : Array Value) (o : Nat) (v : Value) (h : xs[o]? = some v) (w : World) : (part e xs o).run P w = .ok v w := by
 have ha : (isAgg e).run P w = .ok false w := by unfold isAgg; rw [Sem.run_bind, run_underlying hu w]; rfl
 unfold part
 rw [Sem.run_bind, ha]
 simp only [Result.andThen_ok, Bool.false_eq_true, if_false, h, Sem.run_pure]
theorem all_beq (a b : List UInt8) (n : Nat) (ha : a.length = n) (hb : b.length = n) : ((List.range n).all fun i => nth a i == nth b i) = (a == b) := by
 rw [Bool.eq_iff_iff]
 simp only [List.all_eq_true, List.mem_range, beq_iff_eq]
 constructor
 ·intro h
  apply List.ext_getElem (by omega)
  intro i h1 h2
  have := h i (by omega)
  simpa [nth, h1, h2] using this
 ·rintro rfl i _; rfl
theorem run_equalIn_bytes {t e : TypeId} {n : Nat} (d : Nat) (hu : P.underlying t = some (.array n e)) (he : P.underlying e = some (.int .u8)) (hn : (P.info? e).map (·.size) = some 1)
  (a b : List UInt8) (ha : a.length = n) (hb : b.length = n) (w : World) : (Op.equalIn (d + 2) t (.agg (bvs a)) (.agg (bvs b))).run P w = .ok (a == b) w := by
 rw [run_equalIn_row (d + 1) _ _ (fun i => nth a i == nth b i) hu hn ?_ w, all_beq a b n ha hb]
 intro i hi w
 have e1 : (bvs a)[i * 1]? = some (.int .u8 (n8 (nth a i) : Nat)) := by rw [Nat.mul_one, bvs_getElem?, if_pos (by omega)]
 have e2 : (bvs b)[i * 1]? = some (.int .u8 (n8 (nth b i) : Nat)) := by rw [Nat.mul_one, bvs_getElem?, if_pos (by omega)]
 exact ⟨_, _, part_cell he _ _ _ e1 w, part_cell he _ _ _ e2 w, by rw [run_equalIn_int w d e .u8 .u8 _ _ he, n8_ibeq]⟩
theorem part_row {e : TypeId} {m : Nat} (A : Agg P e m) (xs : Array Value) (o : Nat) (w : World) : (part e xs o).run P w = .ok (.agg (xs.extract o (o + m))) w := by
 obtain ⟨dd, hu, hd⟩ := A.und
 have ha : (isAgg e).run P w = .ok true w := by
  unfold isAgg; rw [Sem.run_bind, run_underlying hu w]
  cases dd <;> simp_all [TypeDesc.isRow]
 have hs : (sizeOf e).run P w = .ok m w := by
  have := A.size
  cases hq : P.info? e with
  | none => simp [hq] at this
  | some i => simp [hq] at this; simp [sizeOf, typeInfo, hq, this]
 unfold part
 rw [Sem.run_bind, ha]
 simp only [Result.andThen_ok, if_true]
 rw [Sem.run_bind, hs]
 simp only [Result.andThen_ok, Sem.run_pure]
end Go.Rw

end
section
namespace Vlt
open Go Go.Rw Aes Hdr
theorem nonce_len (iv : List UInt8) (u : UInt64) : (nonce iv u).length = iv.length := nv_length iv u 8
theorem nonce_nth (iv : List UInt8) (hl : iv.length = 12) (u : UInt64) (j : Nat) : nth (nonce iv u) j = if 4 ≤ j ∧ j < 12 then nth iv j ^^^ nb u (j - 4) else nth iv j := by
 have := nv_nth iv u hl 8 (by omega) j
 exact this
theorem nb_n8 (u : UInt64) (k : Nat) : n8 (nb u k) = n64 u / 2 ^ (56 - 8 * k) % 256 := by
 unfold nb; rw [n8_low8, n64_shr64]
theorem nonce_zero (iv : List UInt8) (hl : iv.length = 12) : nonce iv 0 = iv := by
 apply ext_nth (nonce_len iv 0)
 intro j _
 rw [nonce_nth iv hl]
 split
 ·have e : nb 0 (j - 4) = 0 := n8_inj (by rw [nb_n8]; simp [n64]; rfl)
  rw [e, UInt8.xor_zero]
 ·rfl
theorem nonce_back (iv : List UInt8) (hl : iv.length = 12) (u : UInt64) : nonce (nonce iv u) u = iv := by
 apply ext_nth (by rw [nonce_len, nonce_len])
 intro j _
 rw [nonce_nth _ (by rw [nonce_len]; exact hl), nonce_nth iv hl]
 split
 ·rw [UInt8.xor_assoc, UInt8.xor_self, UInt8.xor_zero]
 ·rfl
def pfx (u : UInt64) (k : Nat) : Nat := n64 u / 2 ^ (64 - 8 * k)
theorem pfx_zero (u : UInt64) : pfx u 0 = 0 := by
 have h : n64 u < 18446744073709551616 := u.toNat_lt
 unfold pfx; exact Nat.div_eq_of_lt h
theorem pfx_eight (u : UInt64) : pfx u 8 = n64 u := by unfold pfx; simp
theorem pfx_succ (u : UInt64) (k : Nat) (h : k < 8) : pfx u (k + 1) = pfx u k * 256 + n8 (nb u k) := by
 rw [nb_n8]
 unfold pfx
 have e : 2 ^ (64 - 8 * k) = 2 ^ (56 - 8 * k) * 256 := by
  rw [show 64 - 8 * k = (56 - 8 * k) + 8 by omega, Nat.pow_add]
 rw [show 64 - 8 * (k + 1) = 56 - 8 * k by omega, e, ← Nat.div_div_eq_div_mul]
 omega
theorem nonce_inj (iv : List UInt8) (hl : iv.length = 12) (a b : UInt64) : (nonce iv a == nonce iv b) = (a == b) := by
 rw [Bool.eq_iff_iff]
 simp only [beq_iff_eq]
 constructor
 ·intro h
  have hk : ∀ k, k ≤ 8 → pfx a k = pfx b k := by
   intro k
   induction k with
   | zero => intro _; rw [pfx_zero, pfx_zero]
   | succ k ih =>
    intro hk
    rw [pfx_succ a k (by omega), pfx_succ b k (by omega), ih (by omega)]
    have e := congrArg (fun l => nth l (4 + k)) h
    simp only [nonce_nth iv hl, if_pos (show 4 ≤ 4 + k ∧ 4 + k < 12 by omega), Nat.add_sub_cancel_left] at e
    have e2 : nb a k = nb b k := by
     have := congrArg (fun x => nth iv (4 + k) ^^^ x) e
     simpa only [← UInt8.xor_assoc, UInt8.xor_self, UInt8.zero_xor] using this
    rw [e2]
  have := hk 8 (Nat.le_refl _)
  rw [pfx_eight, pfx_eight] at this
  exact UInt64.toNat_inj.1 this
 ·intro h; rw [h]
end Vlt
namespace Go.Proofs.Ytjlpppnpdgenfaa
open Go.RowKit Go.Rw Aes Hdr Vlt
theorem infoB : (Try.prog.info? 5).map (·.size) = some 1 := by kernel_rfl
theorem gEq12 (a b : List UInt8) (ha : a.length = 12) (hb : b.length = 12) (w : World) : (Op.equalIn 10000 23 (.agg (bvs a)) (.agg (bvs b))).run Try.prog w = .ok (a == b) w :=
 run_equalIn_bytes 9998 Try.underlying23 Try.underlying5 infoB a b ha hb w
attribute [local go_sem high] gEq12
attribute [local go_sem ↓] ld12 st12 al12 shift_shl64 shift_shr8 bvs_getElem?
attribute [local go_sem] rld12 rst12 ral12 setRow_alloc_at setRow_alloc_past setRow_drew bvs_setn
end Go.Proofs.Ytjlpppnpdgenfaa

end
