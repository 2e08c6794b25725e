/- VltW1; VltW2; VltM; VltS. -/
import Derived.Test.YtjlpppnpdgenfaaMvbGcmW7
import Derived.Test.YtjlpppnpdgenfaaMvbHdrW12
import Derived.Test.YtjlpppnpdgenfaaMvb20
section
namespace Vlt
open Go Go.Rw
def nb (num : UInt64) (k : Nat) : UInt8 := low8 (shr64 num (56 - 8 * k))
def nv (iv : List UInt8) (num : UInt64) : Nat → List UInt8
 | 0 => iv
 | k + 1 => (nv iv num k).set (4 + k) (nth (nv iv num k) (4 + k) ^^^ nb num k)
def nonce (iv : List UInt8) (num : UInt64) : List UInt8 := nv iv num 8
theorem nv_length (iv : List UInt8) (num : UInt64) : ∀ k, (nv iv num k).length = iv.length
 | 0 => rfl
 | k + 1 => by rw [nv, List.length_set]; exact nv_length iv num k
def rv (iv : List UInt8) (num : UInt64) : Nat → List UInt8
 | 0 => iv
 | k + 1 => (rv iv num k).set (11 - k) (nth (rv iv num k) (11 - k) ^^^ low8 (shr64 num (8 * k)))
theorem rv_length (iv : List UInt8) (num : UInt64) : ∀ k, (rv iv num k).length = iv.length
 | 0 => rfl
 | k + 1 => by rw [rv, List.length_set]; exact rv_length iv num k
theorem nth_set (l : List UInt8) (j i : Nat) (x : UInt8) (h : j < l.length) : nth (l.set j x) i = if i = j then x else nth l i := by
 unfold nth
 rw [List.getElem?_set]
 by_cases e : j = i
 ·subst e; simp [h]
 ·rw [if_neg e, if_neg (fun q => e q.symm)]
theorem nv_nth (iv : List UInt8) (num : UInt64) (hl : iv.length = 12) : ∀ k, k ≤ 8 → ∀ j, nth (nv iv num k) j = if 4 ≤ j ∧ j < 4 + k then nth iv j ^^^ nb num (j - 4) else nth iv j
 | 0, _, j => by rw [if_neg (by omega)]; rfl
 | k + 1, hk, j => by
  have ih := nv_nth iv num hl k (by omega)
  rw [nv, nth_set _ _ _ _ (by rw [nv_length, hl]; omega)]
  by_cases e : j = 4 + k
  ·subst e
   rw [if_pos rfl, ih, if_neg (by omega), if_pos (by omega), Nat.add_sub_cancel_left]
  ·rw [if_neg e, ih]
   by_cases h : 4 ≤ j ∧ j < 4 + k
   ·rw [if_pos h, if_pos (by omega)]
   ·rw [if_neg h, if_neg (by omega)]
theorem rv_nth (iv : List UInt8) (num : UInt64) (hl : iv.length = 12) : ∀ k, k ≤ 8 → ∀ j, nth (rv iv num k) j = if 12 - k ≤ j ∧ j < 12 then nth iv j ^^^ low8 (shr64 num (8 * (11 - j))) else nth iv j
 | 0, _, j => by rw [if_neg (by omega)]; rfl
 | k + 1, hk, j => by
  have ih := rv_nth iv num hl k (by omega)
  rw [rv, nth_set _ _ _ _ (by rw [rv_length, hl]; omega)]
  by_cases e : j = 11 - k
  ·rw [if_pos e, ih, if_neg (by omega), if_pos (by omega), e, show 11 - (11 - k) = k by omega]
  ·rw [if_neg e, ih]
   by_cases h : 12 - k ≤ j ∧ j < 12
   ·rw [if_pos h, if_pos (by omega)]
   ·rw [if_neg h, if_neg (by omega)]
theorem rv_eq (iv : List UInt8) (num : UInt64) (hl : iv.length = 12) : rv iv num 8 = nonce iv num := by
 apply List.ext_getElem?
 intro j
 have h1 := rv_length iv num 8
 have h2 := nv_length iv num 8
 by_cases hj : j < 12
 ·have e : nth (rv iv num 8) j = nth (nv iv num 8) j := by
   rw [rv_nth iv num hl 8 (by omega), nv_nth iv num hl 8 (by omega)]
   by_cases h : 4 ≤ j
   ·rw [if_pos (by omega), if_pos (by omega)]
    unfold nb
    rw [show 56 - 8 * (j - 4) = 8 * (11 - j) by omega]
   ·rw [if_neg (by omega), if_neg (by omega)]
  unfold nth at e
  rw [List.getElem?_eq_getElem (by omega), List.getElem?_eq_getElem (by omega)] at e
  unfold nonce
  rw [List.getElem?_eq_getElem (by omega), List.getElem?_eq_getElem (by omega)]
  exact congrArg some e
 ·unfold nonce
  rw [List.getElem?_eq_none (by omega), List.getElem?_eq_none (by omega)]
end Vlt
namespace Go.Proofs.Ytjlpppnpdgenfaa
open Go.RowKit Go.Rw Aes Vlt
theorem nb_eq (num : UInt64) (k : Nat) : UInt8.ofInt (((n64 num : Nat) : Int) / 2 ^ (56 - 8 * k) % 256) = nb num k := by
 apply UInt8.toNat.inj
 have e : (((n64 num : Nat) : Int) / 2 ^ (56 - 8 * k) % 256) = ((n64 num / 2 ^ (56 - 8 * k) % 256 : Nat) : Int) := by
  generalize 56 - 8 * k = c
  rw [Int.natCast_emod, Int.natCast_ediv, Int.natCast_pow]
  rfl
 rw [e]
 have h := n8_low8 (shr64 num (56 - 8 * k))
 rw [n64_shr64] at h
 show _ = n8 (low8 (shr64 num (56 - 8 * k)))
 rw [h]
 have hl : n64 num / 2 ^ (56 - 8 * k) % 256 < 256 := Nat.mod_lt _ (by decide)
 generalize n64 num / 2 ^ (56 - 8 * k) % 256 = m at hl ⊢
 simp [UInt8.ofInt]
 omega
theorem st12 (x y : Value) : Instr.storeAt 23 x y = storeAgg 23 x y := rfl
theorem al12 : Instr.alloc 23 true (.tuple #[]) = allocAgg 23 := rfl
theorem rst12 (w : World) (b : Nat) (c' : Array Value) (h : (row? w b).map (·.size) = some 12) (hn : c'.size = 12) (h1 : allOne c' = true) : (storeAgg 23 (.pointer (some ⟨b, 0, none⟩)) (.agg c')).run Try.prog w = .ok () (w.setRow b c') := store_rule Ag12 w b c' h hn h1
theorem ral12 (w : World) : (allocAgg 23).run Try.prog w = .ok (.pointer (some ⟨w.heap.size, 0, none⟩)) (w.alloc (.cells (bvs (zeros 12)) 23)) := alloc_rule (n := 12) (by kernel_rfl) w
attribute [local go_sem ↓] ld12 st12 al12 shift_shr8 shift_shr64 bvs_getElem?
attribute [local go_sem] rld12 rst12 ral12 setRow_alloc_at setRow_alloc_past setRow_drew bvs_setn
set_option maxRecDepth 100000 in
set_option maxHeartbeats 2000000 in
theorem nonce_any (iv : List UInt8) (hl : iv.length = 12) (num : UInt64) (w : World) :
  Calls Try.prog 18 #[.agg (bvs iv), .int .u64 (n64 num : Nat)] w fun e w' => e = .returned (.agg (bvs (nonce iv num))) ∧ Below w.heap.size w w' := by
 go_enter Try.func18, Try.ntmps18
 go_wp2_with fail
 go_loopw [5, 6] (fun _ v6 wr => ∃ k : Nat, k ≤ 8 ∧ v6 = .int .i64 (k : Nat) ∧ row? wr w.heap.size = some (bvs (nv iv num k)) ∧ row? wr (w.heap.size + 1) = some (bvs (zeros 12)) ∧ Below w.heap.size w wr) (fun _ v6 _ => 8 - (intOf v6).toNat)
 case atStart => exact ⟨0, by omega, rfl, by simp [go_sem, nv], by simp [go_sem], bel2 w _ _⟩
 case round =>
  obtain ⟨k, hk, rfl, r0, r1, hb⟩ := hrel
  have hlen := nv_length iv num k
  have R1 := Lib.hid r1
  have HB := Lib.hid hb
  by_cases hlt : k < 8
  case neg =>
   obtain rfl : k = 8 := by omega
   have R0 := Lib.hid r0
   obtain ⟨N, hN⟩ : ∃ N, nv iv num 8 = N := ⟨_, rfl⟩
   rw [hN] at r0 hlen
   have HN := Lib.hid hN
   clear hb hN hlt hk R0
   go_wp2_with fail
   refine bodyPost_ret (results_row Ag12 rfl _ _ (w.heap.size + 1) (bvs N) rfl (row?_setRow_eq R1.out) (by rw [bvs_size, hlen, hl])) rfl ⟨by rw [← HN.out]; rfl, below_setRow HB.out (by omega) _⟩
  have p : decide (k < 8) = true := decide_eq_true hlt
  have F0 := Lib.hid r0
  have c0 : wr.cell? ⟨w.heap.size, 4 + k, none⟩ = some (.int .u8 (n8 (nth (nv iv num k) (4 + k)) : Nat)) := by
   rw [row?_cell r0, bvs_getElem?, if_pos (by omega)]
  have f0 := row?_frozen r0
  have w1 : wrap64 (4 + (k : Int)) = 4 + (k : Int) := IntWalk.wrap64_in _ (by omega)
  obtain ⟨e8, h8, h8'⟩ : ∃ e : Nat, wrap64 (8 * (k : Int)) = e ∧ e = 8 * k := ⟨8 * k, (IntWalk.wrap64_in _ (by clear w1; omega)).trans (by omega), rfl⟩
  have h56 : wrap64 (56 - (e8 : Int)) = ((56 - 8 * k : Nat) : Int) := (IntWalk.wrap64_in _ (by clear w1 h8; omega)).trans (by omega)
  obtain ⟨sh, hsh⟩ : ∃ sh, 56 - 8 * k = sh := ⟨_, rfl⟩
  rw [hsh] at h56
  have cv : IntKind.u8.wrap ((n64 (shr64 num sh) : Nat) : Int) = (n8 (nb num k) : Nat) := by
   unfold nb; rw [hsh, n8_low8]; simp only [IntKind.wrap_u8]; omega
  have HS := Lib.hid (And.intro hsh h8')
  have HK := Lib.hid hlt
  clear r0 r1 hb hsh h8'
  go_wp2_with fail
  refine Rg.wp_region_plan (Rg.row [(0, 3), (1, 3), (2, 3), (3, 0), (4, 3), (5, 3), (6, 3), (7, 3), (8, 3), (9, 3), (10, 3), (11, 3)] [12]) [12] (by kernel_rfl) (by kernel_rfl) ?_
  simp only [Rg.row, Rg.PT.map, List.map_cons, List.map_nil, List.getD_cons_zero, List.getD_cons_succ]
  go_wp2_with (first
   |(with_reducible refine Rg.plan_pure ?_ ?_ ?_); kernel_rfl; kernel_rfl; intro _ _|(with_reducible refine Rg.plan_take ?_ ?_ ?_); kernel_rfl; kernel_rfl; intro _ _|(with_reducible refine Rg.plan_keep ?_ ?_); kernel_rfl; intro K hK|refine hK _ _ (Rg.Keep.refl _) ?_; clear hK|refine hK _ _ (Rg.Keep.of_below (by assumption)) ?_; clear hK|(with_reducible refine Rg.plan_skip ?_ ?_); kernel_rfl|(with_reducible refine Rg.plan_done ?_)|(with_reducible refine Rg.calm_normal ?_))
  rw [nb_eq]
  have hr : row? (wr.setCell ⟨w.heap.size, 4 + k, none⟩ (.int .u8 (n8 (nth (nv iv num k) (4 + k) ^^^ nb num k) : Nat))) w.heap.size = some (bvs (nv iv num (k + 1))) := by
   rw [row?_setCell_eq F0.out, bvs_setn]; rfl
  have hr1 : row? (wr.setCell ⟨w.heap.size, 4 + k, none⟩ (.int .u8 (n8 (nth (nv iv num k) (4 + k) ^^^ nb num k) : Nat))) (w.heap.size + 1) = some (bvs (zeros 12)) := by
   exact ((Mut.refl w.heap.size wr).setCell _ _ _).row R1.out (by omega)
  refine ⟨⟨k + 1, HK.out, rfl, (row?_drew _ _).trans hr, (row?_drew _ _).trans hr1, (HB.out.setCell (Nat.le_refl _) _).drew⟩, ?_⟩
  have := HK.out
  clear w1 h8 h56 cv
  simp [intOf]; omega
end Go.Proofs.Ytjlpppnpdgenfaa

end
section
namespace Go.Proofs.Ytjlpppnpdgenfaa
open Go.RowKit Go.Rw Aes Vlt
theorem byte_eq (num : UInt64) (c : Nat) : UInt8.ofInt (((n64 num : Nat) : Int) / 2 ^ c % 256) = low8 (shr64 num c) := by
 apply UInt8.toNat.inj
 have e : (((n64 num : Nat) : Int) / 2 ^ c % 256) = ((n64 num / 2 ^ c % 256 : Nat) : Int) := by
  rw [Int.natCast_emod, Int.natCast_ediv, Int.natCast_pow]
  rfl
 rw [e]
 have h := n8_low8 (shr64 num c)
 rw [n64_shr64] at h
 show _ = n8 (low8 (shr64 num c))
 rw [h]
 have hl : n64 num / 2 ^ c % 256 < 256 := Nat.mod_lt _ (by decide)
 generalize n64 num / 2 ^ c % 256 = m at hl ⊢
 simp [UInt8.ofInt]
 omega
attribute [local go_sem ↓] ld12 st12 al12 shift_shr8 shift_shr64 bvs_getElem?
attribute [local go_sem] rld12 rst12 ral12 setRow_alloc_at setRow_alloc_past setRow_drew bvs_setn
set_option maxRecDepth 100000 in
set_option maxHeartbeats 2000000 in
theorem rnonce_any (iv : List UInt8) (hl : iv.length = 12) (num : UInt64) (w : World) :
  Calls Try.prog 19 #[.agg (bvs iv), .int .u64 (n64 num : Nat)] w fun e w' => e = .returned (.agg (bvs (nonce iv num))) ∧ Below w.heap.size w w' := by
 go_enter Try.func19, Try.ntmps19
 go_wp2_with fail
 go_loopw [5] (fun v6 wr => ∃ k : Nat, k ≤ 8 ∧ v6 = .int .i64 (k : Nat) ∧ row? wr w.heap.size = some (bvs (rv iv num k)) ∧ row? wr (w.heap.size + 1) = some (bvs (zeros 12)) ∧ Below w.heap.size w wr) (fun v6 _ => 8 - (intOf v6).toNat)
 case atStart => exact ⟨0, by omega, rfl, by simp [go_sem, rv], by simp [go_sem], bel2 w _ _⟩
 case round =>
  obtain ⟨k, hk, rfl, r0, r1, hb⟩ := hrel
  have hlen := rv_length iv num k
  have R1 := Lib.hid r1
  have HB := Lib.hid hb
  by_cases hlt : k < 8
  case neg =>
   obtain rfl : k = 8 := by omega
   have R0 := Lib.hid r0
   obtain ⟨N, hN⟩ : ∃ N, rv iv num 8 = N := ⟨_, rfl⟩
   rw [hN] at r0 hlen
   have HN := Lib.hid hN
   clear hb hN hlt hk R0
   go_wp2_with fail
   refine bodyPost_ret (results_row Ag12 rfl _ _ (w.heap.size + 1) (bvs N) rfl (row?_setRow_eq R1.out) (by rw [bvs_size, hlen, hl])) rfl ⟨by rw [← HN.out, rv_eq iv num hl], below_setRow HB.out (by omega) _⟩
  have p : decide (k < 8) = true := decide_eq_true hlt
  have F0 := Lib.hid r0
  have c0 : wr.cell? ⟨w.heap.size, 11 - k, none⟩ = some (.int .u8 (n8 (nth (rv iv num k) (11 - k)) : Nat)) := by
   rw [row?_cell r0, bvs_getElem?, if_pos (by omega)]
  have f0 := row?_frozen r0
  have w1 : wrap64 (11 - (k : Int)) = ((11 - k : Nat) : Int) := (IntWalk.wrap64_in _ (by omega)).trans (by omega)
  have HK := Lib.hid hlt
  clear r0 r1 hb
  go_wp2_with fail
  refine Rg.wp_region_plan (Rg.row [(0, 3), (1, 3), (2, 3), (3, 3), (4, 3), (5, 0), (6, 3), (7, 3), (8, 3), (9, 3), (10, 3), (11, 3), (12, 3)] [13]) [13] (by kernel_rfl) (by kernel_rfl) ?_
  simp only [Rg.row, Rg.PT.map, List.map_cons, List.map_nil, List.getD_cons_zero, List.getD_cons_succ]
  go_wp2_with (first
   |(with_reducible refine Rg.plan_pure ?_ ?_ ?_); kernel_rfl; kernel_rfl; intro _ _|(with_reducible refine Rg.plan_take ?_ ?_ ?_); kernel_rfl; kernel_rfl; intro _ _|(with_reducible refine Rg.plan_keep ?_ ?_); kernel_rfl; intro K hK|refine hK _ _ (Rg.Keep.refl _) ?_; clear hK|refine hK _ _ (Rg.Keep.of_below (by assumption)) ?_; clear hK|(with_reducible refine Rg.plan_skip ?_ ?_); kernel_rfl|(with_reducible refine Rg.plan_done ?_)|(with_reducible refine Rg.calm_normal ?_))
  rw [byte_eq]
  have hr : row? (wr.setCell ⟨w.heap.size, 11 - k, none⟩ (.int .u8 (n8 (nth (rv iv num k) (11 - k) ^^^ low8 (shr64 num (8 * k))) : Nat))) w.heap.size = some (bvs (rv iv num (k + 1))) := by
   rw [row?_setCell_eq F0.out, bvs_setn]; rfl
  have hr1 : row? (wr.setCell ⟨w.heap.size, 11 - k, none⟩ (.int .u8 (n8 (nth (rv iv num k) (11 - k) ^^^ low8 (shr64 num (8 * k))) : Nat))) (w.heap.size + 1) = some (bvs (zeros 12)) :=
   ((Mut.refl w.heap.size wr).setCell _ _ _).row R1.out (by omega)
  refine ⟨⟨k + 1, HK.out, rfl, (row?_drew _ _).trans hr, (row?_drew _ _).trans hr1, (HB.out.setCell (Nat.le_refl _) _).drew⟩, ?_⟩
  have := HK.out
  clear w1
  simp [intOf]; omega
end Go.Proofs.Ytjlpppnpdgenfaa

end
section
namespace Vlt
open Go Go.Rw Aes
def lowB (f : UInt8) : UInt8 := if (f &&& 128 == 0) = true then 31 else 15
def mset (m : List UInt8) (at_ : Nat) (l : List UInt8) : Nat → List UInt8
 | 0 => l
 | k + 1 => (mset m at_ l k).set (at_ + k) (nth (mset m at_ l k) (at_ + k) ^^^ nth m (1 + k))
def smp (l : List UInt8) (at_ : Nat) : List UInt8 := (l.take (at_ + 4 + 16)).drop (at_ + 4)
def mfirst (m l : List UInt8) : List UInt8 := l.set 0 (nth l 0 ^^^ (nth m 0 &&& lowB (nth l 0)))
def mmany (l : List UInt8) (many : Nat) : Nat := if many = 0 then n8 (nth l 0 &&& 3) + 1 else many
def maskW (msk l : List UInt8) (at_ many : Nat) : List UInt8 :=
 mset (block msk (smp l at_)) at_ (mfirst (block msk (smp l at_)) l) (mmany (mfirst (block msk (smp l at_)) l) many)
theorem mset_length (m : List UInt8) (at_ : Nat) (l : List UInt8) : ∀ k, (mset m at_ l k).length = l.length
 | 0 => rfl
 | k + 1 => by rw [mset, List.length_set]; exact mset_length m at_ l k
theorem mfirst_length (m l : List UInt8) : (mfirst m l).length = l.length := by simp [mfirst]
theorem smp_length (l : List UInt8) (at_ : Nat) (h : at_ + 20 ≤ l.length) : (smp l at_).length = 16 := by simp [smp]; omega
theorem maskW_length (msk l : List UInt8) (at_ many : Nat) : (maskW msk l at_ many).length = l.length := by rw [maskW, mset_length, mfirst_length]
theorem and3_lt (x : UInt8) : n8 (x &&& 3) < 4 := by
 have : x.toNat &&& 3 < 4 := by
  have := Nat.and_lt_two_pow x.toNat (n := 2) (y := 3) (by decide)
  exact this
 show (x &&& 3).toNat < 4
 rw [UInt8.toNat_and]; exact this
theorem mmany_bd (l : List UInt8) (many : Nat) (h : many ≤ 4) : 1 ≤ mmany l many ∧ mmany l many ≤ 4 := by
 unfold mmany
 have := and3_lt (nth l 0)
 split <;> omega
end Vlt
namespace Go.Proofs.Ytjlpppnpdgenfaa
open Go.RowKit Go.Rw Aes Vlt
def ksB (key iv msk : List UInt8) : List UInt8 := key ++ iv ++ msk
theorem ksB_length {key iv msk : List UInt8} (hk : key.length = 16) (hi : iv.length = 12) (hm : msk.length = 16) : (ksB key iv msk).length = 44 := by simp [ksB, hk, hi, hm]
theorem ksB_key {key iv msk : List UInt8} (hk : key.length = 16) : (bvs (ksB key iv msk)).extract 0 (0 + 16) = bvs key := by
 rw [bvs_extract]; simp [ksB, ← hk]
theorem ksB_iv {key iv msk : List UInt8} (hk : key.length = 16) (hi : iv.length = 12) : (bvs (ksB key iv msk)).extract 16 (16 + 12) = bvs iv := by
 rw [bvs_extract]
 congr 1
 unfold ksB
 rw [List.take_append_of_le_length (by simp; omega), List.take_of_length_le (by simp; omega), List.drop_append_of_le_length (by omega), List.drop_of_length_le (by omega), List.nil_append]
theorem ksB_msk {key iv msk : List UInt8} (hk : key.length = 16) (hi : iv.length = 12) (hm : msk.length = 16) : (bvs (ksB key iv msk)).extract 28 (28 + 16) = bvs msk := by
 rw [bvs_extract]
 congr 1
 rw [List.take_of_length_le (by rw [ksB_length hk hi hm]; omega)]
 unfold ksB
 rw [List.drop_append_of_le_length (by simp; omega), List.drop_of_length_le (by simp; omega), List.nil_append]
theorem part16 (w : World) (b o : Nat) (c : Array Value) (l : List UInt8) (h : row? w b = some c) (ho : o + 16 ≤ c.size) (he : c.extract o (o + 16) = bvs l) :
  (loadAgg 22 (.pointer (some ⟨b, o, none⟩))).run Try.prog w = .ok (.agg (bvs l)) w := by
 rw [part_rule Ag16 w b o (by rw [h]; simpa using ho) (by rw [h]; rfl), h]
 simp [he]
theorem part12 (w : World) (b o : Nat) (c : Array Value) (l : List UInt8) (h : row? w b = some c) (ho : o + 12 ≤ c.size) (he : c.extract o (o + 12) = bvs l) :
  (loadAgg 23 (.pointer (some ⟨b, o, none⟩))).run Try.prog w = .ok (.agg (bvs l)) w := by
 rw [part_rule Ag12 w b o (by rw [h]; simpa using ho) (by rw [h]; rfl), h]
 simp [he]
theorem grown_drew {w w' : World} {r : Option Nat} (h : w.grownBy w' r) : w.grownBy w'.drew r := ⟨h.os, h.tape, h.output, h.size, h.block⟩
theorem own_part {w : World} {B g n cap : Nat} {e : TypeId} {l : List UInt8} (h : w.ownsRow B e 1 (.slice (some ⟨g, 0, none⟩) n cap) n (l.map bv)) :
  ∃ cur, row? w g = some cur ∧ l.length = n ∧ n ≤ cap ∧ cur.size = cap ∧ B ≤ g ∧ ∀ o m, o + m ≤ n → cur.extract o (o + m) = bvs ((l.take (o + m)).drop o) := by
 have hl : l.length = n := by have := h.1; simpa using this
 rcases h.2 with ⟨h', _⟩ | ⟨g', cap', cur, h', hb, hg, hnc, hcm, hcs, htake⟩
 ·cases h'
 ·simp only [Value.slice.injEq, Option.some.injEq, Addr.mk.injEq, and_true, true_and] at h'
  obtain ⟨rfl, rfl⟩ := h'
  refine ⟨cur, row?_of hg, hl, hnc, by omega, hb, fun o m hm => ?_⟩
  apply Array.toList_inj.1
  have e1 : cur.toList.take (o + m) = (l.take (o + m)).map bv := by
   rw [List.map_take, ← htake, List.take_take]
   congr 1; omega
  have e2 : (cur.extract o (o + m)).toList = (cur.toList.take (o + m)).drop o := by
   simp [List.drop_take]
  rw [e2, e1]
  simp [bvs, List.map_drop, List.map_take]
attribute [local go_sem ↓] ld16 st16 al16 ld12 shift_shr8 bvs_getElem?
attribute [local go_sem] rld16 rst16 ral16 setRow_alloc_at setRow_alloc_past setRow_drew bvs_setn
set_option maxRecDepth 100000 in
set_option maxHeartbeats 2000000 in
theorem mask_any (key iv msk l : List UInt8) (hk : key.length = 16) (hi : iv.length = 12) (hm : msk.length = 16) (at_ many g cap B : Nat) (hat : at_ + 20 ≤ l.length) (hl : l.length ≤ 1000000) (hmany : many ≤ 4) (w : World)
  (hown : w.ownsRow B 5 1 (.slice (some ⟨g, 0, none⟩) l.length cap) l.length (l.map bv)) :
  Calls Try.prog 31 #[.agg (bvs (ksB key iv msk)), .slice (some ⟨g, 0, none⟩) l.length cap, .int .i64 (at_ : Nat), .int .i64 (many : Nat)] w fun e w' =>
   e = .returned (.tuple #[]) ∧ w'.ownsRow B 5 1 (.slice (some ⟨g, 0, none⟩) l.length cap) l.length ((maskW msk l at_ many).map bv) ∧ w.grownBy w' (some g) := by
 obtain ⟨cur, hcur, -, hncap, hcs, hBg, hpart⟩ := own_part hown
 have hgw := row?_lt hcur
 have hKl := ksB_length hk hi hm
 have hKm := ksB_msk hk hi hm
 obtain ⟨S, hS⟩ : ∃ S, smp l at_ = S := ⟨_, rfl⟩
 have hSl : S.length = 16 := by rw [← hS]; exact smp_length l at_ hat
 have hpS := hpart (at_ + 4) 16 (by omega)
 rw [show (l.take (at_ + 4 + 16)).drop (at_ + 4) = S from hS] at hpS
 obtain ⟨M, hM⟩ : ∃ M, block msk S = M := ⟨_, rfl⟩
 have hMl : M.length = 16 := by rw [← hM]; exact block_length _ _
 have HW : maskW msk l at_ many = mset M at_ (mfirst M l) (mmany (mfirst M l) many) := by rw [maskW, hS, hM]
 rw [HW]
 generalize ksB key iv msk = K at *
 have harr : ∀ W, (Instr.arrayAt 22 (.slice (some ⟨g, at_ + 4, none⟩) (l.length - (at_ + 4)) (cap - (at_ + 4)))).run Try.prog W = .ok (.pointer (some ⟨g, at_ + 4, none⟩)) W := fun W =>
  run_arrayAt (h := Try.underlying22) (hn := by omega) ..
 have hld1 : ∀ W, row? W w.heap.size = some (bvs K) → (loadAgg 22 (.pointer (some ⟨w.heap.size, 28, none⟩))).run Try.prog W = .ok (.agg (bvs msk)) W := fun W h => part16 W _ _ _ _ h (by simp only [bvs_size]; omega) hKm
 have hld2 : ∀ W, row? W g = some cur → (loadAgg 22 (.pointer (some ⟨g, at_ + 4, none⟩))).run Try.prog W = .ok (.agg (bvs S)) W := fun W h => part16 W _ _ _ _ h (by omega) hpS
 have HS := Lib.hid hS
 have HP := Lib.hid hpart
 have HPS := Lib.hid hpS
 have HOWN := Lib.hid hown
 have HKM := Lib.hid hKm
 have HWW := Lib.hid HW
 have HMM := Lib.hid hM
 have HCS := Lib.hid hcs
 have HCUR := Lib.hid hcur
 clear hS hpart hpS hown hKm HW hM hcs
 go_enter Try.func31, Try.ntmps31
 go_wp2_with fail
 refine Rg.wp_region_flo [(0, 3), (1, 0), (2, 3), (3, 3), (4, 3), (5, 3)] [
   ⟨6, 17, [], false, fun v _ => v = .pointer (some ⟨g, at_ + 4, none⟩)⟩,
   ⟨7, 18, [6], false, fun v _ => v = .agg (bvs S)⟩,
   ⟨8, 19, [7], false, fun v _ => v = .agg (bvs M)⟩,
   ⟨9, 8, [], true, fun v w' => ∃ B, v = .pointer (some ⟨B, 0, none⟩) ∧ row? w' B = some (bvs (zeros 16))⟩] [(6, 17, []), (7, 18, [6]), (8, 19, [7]), (9, 8, [])] [10] (by kernel_rfl) (by kernel_rfl) rfl ?_
 simp only [Rg.row, Rg.PT.map, List.getD_cons_zero, List.getD_cons_succ]
 go_wp2_with (first
  |(with_reducible refine Rg.plan_pure ?_ ?_ ?_); kernel_rfl; kernel_rfl; intro _ _|(with_reducible refine Rg.plan_take ?_ ?_ ?_); kernel_rfl; kernel_rfl; intro _ _|(with_reducible refine Rg.plan_keep ?_ ?_); kernel_rfl; intro K hK|refine hK _ _ (Rg.Keep.refl _) ?_; clear hK|refine hK _ _ (Rg.Keep.of_below (by assumption)) ?_; clear hK|(with_reducible refine Rg.plan_skip ?_ ?_); kernel_rfl|(with_reducible refine Rg.plan_done ?_)|(with_reducible refine Rg.calm_normal ?_))
 refine Rg.phase_done (Rg.Phase.mk ?_ ?_ ?_)
 ·refine List.forall_mem_cons.2 ⟨?_, List.forall_mem_cons.2 ⟨?_, List.forall_mem_cons.2 ⟨?_, List.forall_mem_cons.2 ⟨?_, fun r hr => (by cases hr)⟩⟩⟩⟩
  ·exact fun v w1 w2 _ h => h
  ·exact fun v w1 w2 _ h => h
  ·exact fun v w1 w2 _ h => h
  ·rintro v w1 w2 hb ⟨B, e, h⟩; exact ⟨B, e, Rg.stable_row hb h⟩
 ·refine List.forall_mem_cons.2 ⟨?_, List.forall_mem_cons.2 ⟨?_, List.forall_mem_cons.2 ⟨?_, List.forall_mem_cons.2 ⟨?_, fun r hr => (by cases hr)⟩⟩⟩⟩
  ·intro us wx hbx hdep K hK
   exact Rg.exec_value (by simp [go_sem, execOp, Rg.puts, harr]) (hK _ _ _ rfl rfl (Below.refl _ _) (fun h => (by cases h)))
  ·intro us wx hbx hdep K hK
   have e6 : us 6 = .pointer (some ⟨g, at_ + 4, none⟩) := (List.forall_mem_cons.1 hdep).1 (by simp)
   exact Rg.exec_value (by simp [go_sem, execOp, Rg.puts, e6, hld2 wx (Rg.stable_row hbx ((row?_alloc_past w _ g hgw).trans HCUR.out))]) (hK _ _ _ rfl rfl (Below.refl _ _) (fun h => (by cases h)))
  ·intro us wx hbx hdep K hK
   have e7 : us 7 = .agg (bvs S) := (List.forall_mem_cons.1 (List.forall_mem_cons.1 hdep).2).1 (by simp)
   refine Rg.exec_call (args := #[.agg (bvs msk), .agg (bvs S)]) (by simp [go_sem, execOp, Rg.puts, e7]) (block_any msk S hm hSl _) ?_
   rintro e wy ⟨rfl, hy⟩
   exact ⟨_, rfl, hK _ _ _ rfl (by rw [HMM.out]) hy (fun h => (by cases h))⟩
  ·intro us wx hbx hdep K hK
   exact Rg.exec_value (by simp [go_sem, execOp, Rg.puts]; rfl) (hK _ _ _ rfl ⟨_, rfl, row?_alloc_at _ _ _ _ rfl⟩ ((Below.refl _ _).alloc (Nat.le_refl _) _) (fun _ => ⟨Nat.le_refl _, by simp [Rg.vblk]⟩))
 ·intro us wZ hbZ hJ hfr hne
  have hfr0 : (w.alloc (.cells (bvs K) 25)).heap.size ≤ Rg.vblk (us 9) := (hfr _ (List.getElem_mem (n := 3) (by simp)) rfl).1
  simp only [List.forall_mem_cons] at hJ
  obtain ⟨e6, e7, e8, ⟨BS, e9, rS⟩, -⟩ := hJ
  rw [e9] at hfr0
  have hsz : w.heap.size + 1 ≤ BS := by simpa [Rg.vblk] using hfr0
  simp only [Rg.puts, List.map_cons, List.map_nil, List.getD_cons_zero, List.getD_cons_succ]
  simp only [e6, e7, e8, e9]
  have hbw : Below w.heap.size w wZ := ((Below.refl w.heap.size w).alloc (Nat.le_refl _) (.cells (bvs K) 25)).drew.trans (hbZ.mono (B' := w.heap.size) (by simp))
  have hBSw := row?_lt rS
  have gb : w.grownBy wZ (some g) := by
   exact ⟨hbw.os, hbw.tape, hbw.output, hbw.size, fun k hk _ => hbw.block k hk⟩
  have oZ : wZ.ownsRow B 5 1 (.slice (some ⟨g, 0, none⟩) l.length cap) l.length (l.map bv) := Go.Rw.own_below HOWN.out hbw
  have o1 : (wZ.setRow BS (bvs M)).ownsRow B 5 1 (.slice (some ⟨g, 0, none⟩) l.length cap) l.length (l.map bv) := own_same oZ (setRow_other wZ BS g _ (by omega))
  have r1 : row? (wZ.setRow BS (bvs M)) BS = some (bvs M) := row?_setRow_eq rS
  have g1 : w.grownBy (wZ.setRow BS (bvs M)) (some g) := ⟨gb.os, gb.tape, gb.output, by simpa using gb.size, fun k hk hne => by rw [setRow_other wZ BS k _ (by omega)]; exact gb.block k hk hne⟩
  have c0 : (wZ.setRow BS (bvs M)).cell? ⟨g, 0, none⟩ = some (.int .u8 (n8 (nth l 0) : Nat)) := by
   rw [o1.cellAt 0 (by omega)]
   simp [nth, bv, n8, show 0 < l.length by omega]
  clear gb oZ e6 e7 e8 e9 hfr hne
  obtain ⟨lo, hlo⟩ : ∃ lo, lowB (nth l 0) = lo := ⟨_, rfl⟩
  have O1 := Lib.hid o1
  have R1 := Lib.hid r1
  have G1 := Lib.hid g1
  clear o1 r1 g1
  by_cases hq : (nth l 0 &&& 128 == 0) = true
  ·have hl0 : lo = 31 := by rw [← hlo]; unfold lowB; rw [if_pos hq]
   have HL0 := Lib.hid (And.intro hl0 hlo)
   clear hl0 hlo
   go_wp2_with (first
    |(with_reducible refine Rg.plan_pure ?_ ?_ ?_); kernel_rfl; kernel_rfl; intro _ _|(with_reducible refine Rg.plan_take ?_ ?_ ?_); kernel_rfl; kernel_rfl; intro _ _|(with_reducible refine Rg.plan_keep ?_ ?_); kernel_rfl; intro K hK|refine hK _ _ (Rg.Keep.refl _) ?_; clear hK|refine hK _ _ (Rg.Keep.of_below (by assumption)) ?_; clear hK|(with_reducible refine Rg.plan_skip ?_ ?_); kernel_rfl|(with_reducible refine Rg.plan_done ?_)|(with_reducible refine Rg.calm_normal ?_))
   rw [show Value.int .u8 31 = .int .u8 (n8 lo : Nat) by rw [HL0.out.1]; rfl]
   have hlo := HL0.out.2
   clear HL0 rS hq hbw hbZ hfr0
   generalize wZ.setRow BS (bvs M) = W1 at O1 R1 G1 c0 ⊢
   obtain ⟨F, hF⟩ : ∃ F, nth l 0 ^^^ (nth M 0 &&& lo) = F := ⟨_, rfl⟩
   have hL1 : mfirst M l = l.set 0 F := by unfold mfirst; rw [hlo, hF]
   have fO := O1.out.frozenAt 0
   have m0 : W1.cell? ⟨BS, 0, none⟩ = some (.int .u8 (n8 (nth M 0) : Nat)) := by rw [row?_cell R1.out, bvs_getElem?, if_pos (by omega)]
   have O2 := Lib.hid (own_stored O1.out 0 F)
   have c2 : (W1.setCell ⟨g, 0, none⟩ (.int .u8 (n8 F : Nat))).cell? ⟨g, 0, none⟩ = some (.int .u8 (n8 F : Nat)) := by
    rw [O2.out.cellAt 0 (by omega), List.getElem?_map, List.getElem?_set, if_pos rfl, if_pos (by omega)]; rfl
   have G2 := Lib.hid (grown_trans G1.out (O1.out.stored 0 (bv F)).2)
   have R2 := Lib.hid (show row? (W1.setCell ⟨g, 0, none⟩ (.int .u8 (n8 F : Nat))) BS = some (bvs M) by rw [row?_setCell_ne _ _ _ _ (by show BS ≠ g; omega)]; exact R1.out)
   have HLO := Lib.hid (And.intro hlo hL1)
   have hn0 : nth (l.set 0 F) 0 = F := by rw [nth_set _ _ _ _ (by omega), if_pos rfl]
   have HN0 := Lib.hid hn0
   clear hlo hL1 hn0
   by_cases hm0 : many = 0
   ·have hz : ((many : Int) == 0) = true := by simpa using hm0
    obtain ⟨nl, hnl⟩ : ∃ nl, n8 (F &&& 3) + 1 = nl := ⟨_, rfl⟩
    have hq3 := and3_lt F
    have q3a : wrap64 ((n8 (F &&& 3) : Nat) : Int) = (n8 (F &&& 3) : Nat) := IntWalk.wrap64_in _ (by omega)
    have q3b : wrap64 (((n8 (F &&& 3) : Nat) : Int) + 1) = (nl : Nat) := (IntWalk.wrap64_in _ (by clear q3a; omega)).trans (by clear q3a; omega)
    have HNL := Lib.hid hnl
    clear hnl hq3
    have hmm : mmany (l.set 0 F) many = nl := by unfold mmany; rw [if_pos hm0, HN0.out, HNL.out]
    have hM4 : nl ≤ 4 := by have := (mmany_bd (l.set 0 F) many hmany).2; omega
    have HMm := Lib.hid hmm
    clear hmm
    go_wp2_with fail
    refine Rg.wp_region_plan (Rg.row [(0, 3), (1, 3), (2, 0), (3, 3), (4, 0), (5, 3), (6, 3), (7, 3), (8, 3)] [9]) [9] (by kernel_rfl) (by kernel_rfl) ?_
    simp only [Rg.row, Rg.PT.map, List.map_cons, List.map_nil, List.getD_cons_zero, List.getD_cons_succ]
    go_wp2_with (first
     |(with_reducible refine Rg.plan_pure ?_ ?_ ?_); kernel_rfl; kernel_rfl; intro _ _|(with_reducible refine Rg.plan_take ?_ ?_ ?_); kernel_rfl; kernel_rfl; intro _ _|(with_reducible refine Rg.plan_keep ?_ ?_); kernel_rfl; intro K hK|refine hK _ _ (Rg.Keep.refl _) ?_; clear hK|refine hK _ _ (Rg.Keep.of_below (by assumption)) ?_; clear hK|(with_reducible refine Rg.plan_skip ?_ ?_); kernel_rfl|(with_reducible refine Rg.plan_done ?_)|(with_reducible refine Rg.calm_normal ?_))
    clear c0 c2 m0 fO
    go_loopw [10, 43] (fun _ v wr => ∃ k : Nat, k ≤ nl ∧ v = .int .i64 (k : Nat) ∧ wr.ownsRow B 5 1 (.slice (some ⟨g, 0, none⟩) l.length cap) l.length ((mset M at_ (l.set 0 F) k).map bv) ∧ row? wr BS = some (bvs M) ∧ w.grownBy wr (some g)) (fun _ v _ => nl - (intOf v).toNat)
    case atStart => exact ⟨0, by omega, rfl, O2.out, R2.out, grown_drew G2.out⟩
    case round =>
     obtain ⟨k, hk, rfl, ho, hr, hg⟩ := hrel
     have hlen : (mset M at_ (l.set 0 F) k).length = l.length := by rw [mset_length, List.length_set]
     have HO := Lib.hid ho
     have HR := Lib.hid hr
     have HG := Lib.hid hg
     by_cases hlt : k < nl
     ·have p : decide (k < nl) = true := decide_eq_true hlt
      have e1 : wr.cell? ⟨g, at_ + k, none⟩ = some (.int .u8 (n8 (nth (mset M at_ (l.set 0 F) k) (at_ + k)) : Nat)) := by
       rw [ho.cellAt (at_ + k) (by omega)]
       simp [nth, bv, n8, show at_ + k < (mset M at_ (l.set 0 F) k).length by omega]
      have e2 : wr.cell? ⟨BS, 1 + k, none⟩ = some (.int .u8 (n8 (nth M (1 + k)) : Nat)) := by rw [row?_cell hr, bvs_getElem?, if_pos (by omega)]
      have e3 := ho.frozenAt (at_ + k)
      have HN := Lib.hid (own_stored ho (at_ + k) (nth (mset M at_ (l.set 0 F) k) (at_ + k) ^^^ nth M (1 + k)))
      have HGN := Lib.hid (grown_trans hg (ho.stored (at_ + k) (bv (nth (mset M at_ (l.set 0 F) k) (at_ + k) ^^^ nth M (1 + k)))).2)
      have HLT := Lib.hid hlt
      have hik : at_ + k < l.length := by omega
      have hik2 : 1 + k < 16 := by omega
      clear ho hr hg
      go_wp2_with fail
      refine Rg.wp_region_plan (Rg.row [(0, 3), (1, 3), (2, 3), (3, 3), (4, 3), (5, 0), (6, 3), (7, 3), (8, 3), (9, 0), (10, 3), (11, 3)] [12]) [12] (by kernel_rfl) (by kernel_rfl) ?_
      simp only [Rg.row, Rg.PT.map, List.map_cons, List.map_nil, List.getD_cons_zero, List.getD_cons_succ]
      go_wp2_with (first
       |(with_reducible refine Rg.plan_pure ?_ ?_ ?_); kernel_rfl; kernel_rfl; intro _ _|(with_reducible refine Rg.plan_take ?_ ?_ ?_); kernel_rfl; kernel_rfl; intro _ _|(with_reducible refine Rg.plan_keep ?_ ?_); kernel_rfl; intro K hK|refine hK _ _ (Rg.Keep.refl _) ?_; clear hK|refine hK _ _ (Rg.Keep.of_below (by assumption)) ?_; clear hK|(with_reducible refine Rg.plan_skip ?_ ?_); kernel_rfl|(with_reducible refine Rg.plan_done ?_)|(with_reducible refine Rg.calm_normal ?_))
      go_roundw
      case rel => exact ⟨k + 1, HLT.out, by go_num, HN.out, (row?_setCell_ne _ _ _ _ (by show BS ≠ g; omega)).trans HR.out, grown_drew HGN.out⟩
      case measure => have := HLT.out; simp [intOf]; omega
     ·obtain rfl : k = nl := by omega
      clear ho hr hg
      go_wp2_with fail
      go_end0
      refine ⟨rfl, ?_, HG.out⟩
      rw [HLO.out.2, HMm.out]; exact HO.out
   ·have hz : ((many : Int) == 0) = false := by simpa using hm0
    have hmm : mmany (l.set 0 F) many = many := by unfold mmany; rw [if_neg hm0]
    have hM4 : many ≤ 4 := by have := (mmany_bd (l.set 0 F) many hmany).2; omega
    have HMm := Lib.hid hmm
    clear hmm
    go_wp2_with fail
    refine Rg.wp_region_plan (Rg.row [(0, 3), (1, 3), (2, 0), (3, 3), (4, 0), (5, 3), (6, 3), (7, 3), (8, 3)] [9]) [9] (by kernel_rfl) (by kernel_rfl) ?_
    simp only [Rg.row, Rg.PT.map, List.map_cons, List.map_nil, List.getD_cons_zero, List.getD_cons_succ]
    go_wp2_with (first
     |(with_reducible refine Rg.plan_pure ?_ ?_ ?_); kernel_rfl; kernel_rfl; intro _ _|(with_reducible refine Rg.plan_take ?_ ?_ ?_); kernel_rfl; kernel_rfl; intro _ _|(with_reducible refine Rg.plan_keep ?_ ?_); kernel_rfl; intro K hK|refine hK _ _ (Rg.Keep.refl _) ?_; clear hK|refine hK _ _ (Rg.Keep.of_below (by assumption)) ?_; clear hK|(with_reducible refine Rg.plan_skip ?_ ?_); kernel_rfl|(with_reducible refine Rg.plan_done ?_)|(with_reducible refine Rg.calm_normal ?_))
    clear c0 c2 m0 fO
    go_loopw [10, 43] (fun _ v wr => ∃ k : Nat, k ≤ many ∧ v = .int .i64 (k : Nat) ∧ wr.ownsRow B 5 1 (.slice (some ⟨g, 0, none⟩) l.length cap) l.length ((mset M at_ (l.set 0 F) k).map bv) ∧ row? wr BS = some (bvs M) ∧ w.grownBy wr (some g)) (fun _ v _ => many - (intOf v).toNat)
    case atStart => exact ⟨0, by omega, rfl, O2.out, R2.out, grown_drew G2.out⟩
    case round =>
     obtain ⟨k, hk, rfl, ho, hr, hg⟩ := hrel
     have hlen : (mset M at_ (l.set 0 F) k).length = l.length := by rw [mset_length, List.length_set]
     have HO := Lib.hid ho
     have HR := Lib.hid hr
     have HG := Lib.hid hg
     by_cases hlt : k < many
     ·have p : decide (k < many) = true := decide_eq_true hlt
      have e1 : wr.cell? ⟨g, at_ + k, none⟩ = some (.int .u8 (n8 (nth (mset M at_ (l.set 0 F) k) (at_ + k)) : Nat)) := by
       rw [ho.cellAt (at_ + k) (by omega)]
       simp [nth, bv, n8, show at_ + k < (mset M at_ (l.set 0 F) k).length by omega]
      have e2 : wr.cell? ⟨BS, 1 + k, none⟩ = some (.int .u8 (n8 (nth M (1 + k)) : Nat)) := by rw [row?_cell hr, bvs_getElem?, if_pos (by omega)]
      have e3 := ho.frozenAt (at_ + k)
      have HN := Lib.hid (own_stored ho (at_ + k) (nth (mset M at_ (l.set 0 F) k) (at_ + k) ^^^ nth M (1 + k)))
      have HGN := Lib.hid (grown_trans hg (ho.stored (at_ + k) (bv (nth (mset M at_ (l.set 0 F) k) (at_ + k) ^^^ nth M (1 + k)))).2)
      have HLT := Lib.hid hlt
      have hik : at_ + k < l.length := by omega
      have hik2 : 1 + k < 16 := by omega
      clear ho hr hg
      go_wp2_with fail
      refine Rg.wp_region_plan (Rg.row [(0, 3), (1, 3), (2, 3), (3, 3), (4, 3), (5, 0), (6, 3), (7, 3), (8, 3), (9, 0), (10, 3), (11, 3)] [12]) [12] (by kernel_rfl) (by kernel_rfl) ?_
      simp only [Rg.row, Rg.PT.map, List.map_cons, List.map_nil, List.getD_cons_zero, List.getD_cons_succ]
      go_wp2_with (first
       |(with_reducible refine Rg.plan_pure ?_ ?_ ?_); kernel_rfl; kernel_rfl; intro _ _|(with_reducible refine Rg.plan_take ?_ ?_ ?_); kernel_rfl; kernel_rfl; intro _ _|(with_reducible refine Rg.plan_keep ?_ ?_); kernel_rfl; intro K hK|refine hK _ _ (Rg.Keep.refl _) ?_; clear hK|refine hK _ _ (Rg.Keep.of_below (by assumption)) ?_; clear hK|(with_reducible refine Rg.plan_skip ?_ ?_); kernel_rfl|(with_reducible refine Rg.plan_done ?_)|(with_reducible refine Rg.calm_normal ?_))
      go_roundw
      case rel => exact ⟨k + 1, HLT.out, by go_num, HN.out, (row?_setCell_ne _ _ _ _ (by show BS ≠ g; omega)).trans HR.out, grown_drew HGN.out⟩
      case measure => have := HLT.out; simp [intOf]; omega
     ·obtain rfl : k = many := by omega
      clear ho hr hg
      go_wp2_with fail
      go_end0
      refine ⟨rfl, ?_, HG.out⟩
      rw [HLO.out.2, HMm.out]; exact HO.out
  ·have hl0 : lo = 15 := by rw [← hlo]; unfold lowB; rw [if_neg hq]
   have HL0 := Lib.hid (And.intro hl0 hlo)
   clear hl0 hlo
   have hq' : (nth l 0 &&& 128 == 0) = false := by simpa using hq
   go_wp2_with (first
    |(with_reducible refine Rg.plan_pure ?_ ?_ ?_); kernel_rfl; kernel_rfl; intro _ _|(with_reducible refine Rg.plan_take ?_ ?_ ?_); kernel_rfl; kernel_rfl; intro _ _|(with_reducible refine Rg.plan_keep ?_ ?_); kernel_rfl; intro K hK|refine hK _ _ (Rg.Keep.refl _) ?_; clear hK|refine hK _ _ (Rg.Keep.of_below (by assumption)) ?_; clear hK|(with_reducible refine Rg.plan_skip ?_ ?_); kernel_rfl|(with_reducible refine Rg.plan_done ?_)|(with_reducible refine Rg.calm_normal ?_))
   rw [show Value.int .u8 15 = .int .u8 (n8 lo : Nat) by rw [HL0.out.1]; rfl]
   have hlo := HL0.out.2
   clear HL0 rS hq hq' hbw hbZ hfr0
   generalize wZ.setRow BS (bvs M) = W1 at O1 R1 G1 c0 ⊢
   obtain ⟨F, hF⟩ : ∃ F, nth l 0 ^^^ (nth M 0 &&& lo) = F := ⟨_, rfl⟩
   have hL1 : mfirst M l = l.set 0 F := by unfold mfirst; rw [hlo, hF]
   have fO := O1.out.frozenAt 0
   have m0 : W1.cell? ⟨BS, 0, none⟩ = some (.int .u8 (n8 (nth M 0) : Nat)) := by rw [row?_cell R1.out, bvs_getElem?, if_pos (by omega)]
   have O2 := Lib.hid (own_stored O1.out 0 F)
   have c2 : (W1.setCell ⟨g, 0, none⟩ (.int .u8 (n8 F : Nat))).cell? ⟨g, 0, none⟩ = some (.int .u8 (n8 F : Nat)) := by
    rw [O2.out.cellAt 0 (by omega), List.getElem?_map, List.getElem?_set, if_pos rfl, if_pos (by omega)]; rfl
   have G2 := Lib.hid (grown_trans G1.out (O1.out.stored 0 (bv F)).2)
   have R2 := Lib.hid (show row? (W1.setCell ⟨g, 0, none⟩ (.int .u8 (n8 F : Nat))) BS = some (bvs M) by rw [row?_setCell_ne _ _ _ _ (by show BS ≠ g; omega)]; exact R1.out)
   have HLO := Lib.hid (And.intro hlo hL1)
   have hn0 : nth (l.set 0 F) 0 = F := by rw [nth_set _ _ _ _ (by omega), if_pos rfl]
   have HN0 := Lib.hid hn0
   clear hlo hL1 hn0
   by_cases hm0 : many = 0
   ·have hz : ((many : Int) == 0) = true := by simpa using hm0
    obtain ⟨nl, hnl⟩ : ∃ nl, n8 (F &&& 3) + 1 = nl := ⟨_, rfl⟩
    have hq3 := and3_lt F
    have q3a : wrap64 ((n8 (F &&& 3) : Nat) : Int) = (n8 (F &&& 3) : Nat) := IntWalk.wrap64_in _ (by omega)
    have q3b : wrap64 (((n8 (F &&& 3) : Nat) : Int) + 1) = (nl : Nat) := (IntWalk.wrap64_in _ (by clear q3a; omega)).trans (by clear q3a; omega)
    have HNL := Lib.hid hnl
    clear hnl hq3
    have hmm : mmany (l.set 0 F) many = nl := by unfold mmany; rw [if_pos hm0, HN0.out, HNL.out]
    have hM4 : nl ≤ 4 := by have := (mmany_bd (l.set 0 F) many hmany).2; omega
    have HMm := Lib.hid hmm
    clear hmm
    go_wp2_with fail
    refine Rg.wp_region_plan (Rg.row [(0, 3), (1, 3), (2, 0), (3, 3), (4, 0), (5, 3), (6, 3), (7, 3), (8, 3)] [9]) [9] (by kernel_rfl) (by kernel_rfl) ?_
    simp only [Rg.row, Rg.PT.map, List.map_cons, List.map_nil, List.getD_cons_zero, List.getD_cons_succ]
    go_wp2_with (first
     |(with_reducible refine Rg.plan_pure ?_ ?_ ?_); kernel_rfl; kernel_rfl; intro _ _|(with_reducible refine Rg.plan_take ?_ ?_ ?_); kernel_rfl; kernel_rfl; intro _ _|(with_reducible refine Rg.plan_keep ?_ ?_); kernel_rfl; intro K hK|refine hK _ _ (Rg.Keep.refl _) ?_; clear hK|refine hK _ _ (Rg.Keep.of_below (by assumption)) ?_; clear hK|(with_reducible refine Rg.plan_skip ?_ ?_); kernel_rfl|(with_reducible refine Rg.plan_done ?_)|(with_reducible refine Rg.calm_normal ?_))
    clear c0 c2 m0 fO
    go_loopw [10, 43] (fun _ v wr => ∃ k : Nat, k ≤ nl ∧ v = .int .i64 (k : Nat) ∧ wr.ownsRow B 5 1 (.slice (some ⟨g, 0, none⟩) l.length cap) l.length ((mset M at_ (l.set 0 F) k).map bv) ∧ row? wr BS = some (bvs M) ∧ w.grownBy wr (some g)) (fun _ v _ => nl - (intOf v).toNat)
    case atStart => exact ⟨0, by omega, rfl, O2.out, R2.out, grown_drew G2.out⟩
    case round =>
     obtain ⟨k, hk, rfl, ho, hr, hg⟩ := hrel
     have hlen : (mset M at_ (l.set 0 F) k).length = l.length := by rw [mset_length, List.length_set]
     have HO := Lib.hid ho
     have HR := Lib.hid hr
     have HG := Lib.hid hg
     by_cases hlt : k < nl
     ·have p : decide (k < nl) = true := decide_eq_true hlt
      have e1 : wr.cell? ⟨g, at_ + k, none⟩ = some (.int .u8 (n8 (nth (mset M at_ (l.set 0 F) k) (at_ + k)) : Nat)) := by
       rw [ho.cellAt (at_ + k) (by omega)]
       simp [nth, bv, n8, show at_ + k < (mset M at_ (l.set 0 F) k).length by omega]
      have e2 : wr.cell? ⟨BS, 1 + k, none⟩ = some (.int .u8 (n8 (nth M (1 + k)) : Nat)) := by rw [row?_cell hr, bvs_getElem?, if_pos (by omega)]
      have e3 := ho.frozenAt (at_ + k)
      have HN := Lib.hid (own_stored ho (at_ + k) (nth (mset M at_ (l.set 0 F) k) (at_ + k) ^^^ nth M (1 + k)))
      have HGN := Lib.hid (grown_trans hg (ho.stored (at_ + k) (bv (nth (mset M at_ (l.set 0 F) k) (at_ + k) ^^^ nth M (1 + k)))).2)
      have HLT := Lib.hid hlt
      have hik : at_ + k < l.length := by omega
      have hik2 : 1 + k < 16 := by omega
      clear ho hr hg
      go_wp2_with fail
      refine Rg.wp_region_plan (Rg.row [(0, 3), (1, 3), (2, 3), (3, 3), (4, 3), (5, 0), (6, 3), (7, 3), (8, 3), (9, 0), (10, 3), (11, 3)] [12]) [12] (by kernel_rfl) (by kernel_rfl) ?_
      simp only [Rg.row, Rg.PT.map, List.map_cons, List.map_nil, List.getD_cons_zero, List.getD_cons_succ]
      go_wp2_with (first
       |(with_reducible refine Rg.plan_pure ?_ ?_ ?_); kernel_rfl; kernel_rfl; intro _ _|(with_reducible refine Rg.plan_take ?_ ?_ ?_); kernel_rfl; kernel_rfl; intro _ _|(with_reducible refine Rg.plan_keep ?_ ?_); kernel_rfl; intro K hK|refine hK _ _ (Rg.Keep.refl _) ?_; clear hK|refine hK _ _ (Rg.Keep.of_below (by assumption)) ?_; clear hK|(with_reducible refine Rg.plan_skip ?_ ?_); kernel_rfl|(with_reducible refine Rg.plan_done ?_)|(with_reducible refine Rg.calm_normal ?_))
      go_roundw
      case rel => exact ⟨k + 1, HLT.out, by go_num, HN.out, (row?_setCell_ne _ _ _ _ (by show BS ≠ g; omega)).trans HR.out, grown_drew HGN.out⟩
      case measure => have := HLT.out; simp [intOf]; omega
     ·obtain rfl : k = nl := by omega
      clear ho hr hg
      go_wp2_with fail
      go_end0
      refine ⟨rfl, ?_, HG.out⟩
      rw [HLO.out.2, HMm.out]; exact HO.out
   ·have hz : ((many : Int) == 0) = false := by simpa using hm0
    have hmm : mmany (l.set 0 F) many = many := by unfold mmany; rw [if_neg hm0]
    have hM4 : many ≤ 4 := by have := (mmany_bd (l.set 0 F) many hmany).2; omega
    have HMm := Lib.hid hmm
    clear hmm
    go_wp2_with fail
    refine Rg.wp_region_plan (Rg.row [(0, 3), (1, 3), (2, 0), (3, 3), (4, 0), (5, 3), (6, 3), (7, 3), (8, 3)] [9]) [9] (by kernel_rfl) (by kernel_rfl) ?_
    simp only [Rg.row, Rg.PT.map, List.map_cons, List.map_nil, List.getD_cons_zero, List.getD_cons_succ]
    go_wp2_with (first
     |(with_reducible refine Rg.plan_pure ?_ ?_ ?_); kernel_rfl; kernel_rfl; intro _ _|(with_reducible refine Rg.plan_take ?_ ?_ ?_); kernel_rfl; kernel_rfl; intro _ _|(with_reducible refine Rg.plan_keep ?_ ?_); kernel_rfl; intro K hK|refine hK _ _ (Rg.Keep.refl _) ?_; clear hK|refine hK _ _ (Rg.Keep.of_below (by assumption)) ?_; clear hK|(with_reducible refine Rg.plan_skip ?_ ?_); kernel_rfl|(with_reducible refine Rg.plan_done ?_)|(with_reducible refine Rg.calm_normal ?_))
    clear c0 c2 m0 fO
    go_loopw [10, 43] (fun _ v wr => ∃ k : Nat, k ≤ many ∧ v = .int .i64 (k : Nat) ∧ wr.ownsRow B 5 1 (.slice (some ⟨g, 0, none⟩) l.length cap) l.length ((mset M at_ (l.set 0 F) k).map bv) ∧ row? wr BS = some (bvs M) ∧ w.grownBy wr (some g)) (fun _ v _ => many - (intOf v).toNat)
    case atStart => exact ⟨0, by omega, rfl, O2.out, R2.out, grown_drew G2.out⟩
    case round =>
     obtain ⟨k, hk, rfl, ho, hr, hg⟩ := hrel
     have hlen : (mset M at_ (l.set 0 F) k).length = l.length := by rw [mset_length, List.length_set]
     have HO := Lib.hid ho
     have HR := Lib.hid hr
     have HG := Lib.hid hg
     by_cases hlt : k < many
     ·have p : decide (k < many) = true := decide_eq_true hlt
      have e1 : wr.cell? ⟨g, at_ + k, none⟩ = some (.int .u8 (n8 (nth (mset M at_ (l.set 0 F) k) (at_ + k)) : Nat)) := by
       rw [ho.cellAt (at_ + k) (by omega)]
       simp [nth, bv, n8, show at_ + k < (mset M at_ (l.set 0 F) k).length by omega]
      have e2 : wr.cell? ⟨BS, 1 + k, none⟩ = some (.int .u8 (n8 (nth M (1 + k)) : Nat)) := by rw [row?_cell hr, bvs_getElem?, if_pos (by omega)]
      have e3 := ho.frozenAt (at_ + k)
      have HN := Lib.hid (own_stored ho (at_ + k) (nth (mset M at_ (l.set 0 F) k) (at_ + k) ^^^ nth M (1 + k)))
      have HGN := Lib.hid (grown_trans hg (ho.stored (at_ + k) (bv (nth (mset M at_ (l.set 0 F) k) (at_ + k) ^^^ nth M (1 + k)))).2)
      have HLT := Lib.hid hlt
      have hik : at_ + k < l.length := by omega
      have hik2 : 1 + k < 16 := by omega
      clear ho hr hg
      go_wp2_with fail
      refine Rg.wp_region_plan (Rg.row [(0, 3), (1, 3), (2, 3), (3, 3), (4, 3), (5, 0), (6, 3), (7, 3), (8, 3), (9, 0), (10, 3), (11, 3)] [12]) [12] (by kernel_rfl) (by kernel_rfl) ?_
      simp only [Rg.row, Rg.PT.map, List.map_cons, List.map_nil, List.getD_cons_zero, List.getD_cons_succ]
      go_wp2_with (first
       |(with_reducible refine Rg.plan_pure ?_ ?_ ?_); kernel_rfl; kernel_rfl; intro _ _|(with_reducible refine Rg.plan_take ?_ ?_ ?_); kernel_rfl; kernel_rfl; intro _ _|(with_reducible refine Rg.plan_keep ?_ ?_); kernel_rfl; intro K hK|refine hK _ _ (Rg.Keep.refl _) ?_; clear hK|refine hK _ _ (Rg.Keep.of_below (by assumption)) ?_; clear hK|(with_reducible refine Rg.plan_skip ?_ ?_); kernel_rfl|(with_reducible refine Rg.plan_done ?_)|(with_reducible refine Rg.calm_normal ?_))
      go_roundw
      case rel => exact ⟨k + 1, HLT.out, by go_num, HN.out, (row?_setCell_ne _ _ _ _ (by show BS ≠ g; omega)).trans HR.out, grown_drew HGN.out⟩
      case measure => have := HLT.out; simp [intOf]; omega
     ·obtain rfl : k = many := by omega
      clear ho hr hg
      go_wp2_with fail
      go_end0
      refine ⟨rfl, ?_, HG.out⟩
      rw [HLO.out.2, HMm.out]; exact HO.out
end Go.Proofs.Ytjlpppnpdgenfaa

end
section
namespace Vlt
open Go Go.Rw Aes Hdr Gcm
def headB (lg : Bool) (kind : Int) (ver : Nat) (dst src tok : List UInt8) (sp ph : Bool) (num nl rest : Nat) : List UInt8 :=
 if lg = true then longB kind ver dst src tok num nl rest else [first sp ph nl] ++ dst ++ be num nl
def packB (key iv msk H text : List UInt8) (u : UInt64) (nl : Nat) : List UInt8 :=
 maskW msk (H ++ sealed key (nonce iv u) text H) (H.length - nl) nl
def sealR (key iv msk : List UInt8) (lg : Bool) (kind : Int) (ver : Nat) (dst src tok : List UInt8) (sp ph : Bool) (u : UInt64) (nl : Int) (text : List UInt8) : List UInt8 × Int :=
 if mayN lg kind ver dst.length src.length tok.length sp ph (n64 u) nl = false ∨ nl + (text.length : Int) < 4 then ([], 2)
 else if 2000 < text.length then ([], 4)
 else (packB key iv msk (headB lg kind ver dst src tok sp ph (n64 u) nl.toNat (text.length + 16)) text u nl.toNat, 0)
theorem sealR_no {key iv msk : List UInt8} {lg : Bool} {kind : Int} {ver : Nat} {dst src tok : List UInt8} {sp ph : Bool} {u : UInt64} {nl : Int} {text : List UInt8} (h : mayN lg kind ver dst.length src.length tok.length sp ph (n64 u) nl = false) : sealR key iv msk lg kind ver dst src tok sp ph u nl text = ([], 2) := by
 unfold sealR; exact if_pos (Or.inl h)
theorem sealR_low {key iv msk : List UInt8} {lg : Bool} {kind : Int} {ver : Nat} {dst src tok : List UInt8} {sp ph : Bool} {u : UInt64} {nl : Int} {text : List UInt8} (h : nl + (text.length : Int) < 4) : sealR key iv msk lg kind ver dst src tok sp ph u nl text = ([], 2) := by
 unfold sealR; exact if_pos (Or.inr h)
theorem sealR_long {key iv msk : List UInt8} {lg : Bool} {kind : Int} {ver : Nat} {dst src tok : List UInt8} {sp ph : Bool} {u : UInt64} {nl : Int} {text : List UInt8} (hm : mayN lg kind ver dst.length src.length tok.length sp ph (n64 u) nl = true) (h4 : ¬ nl + (text.length : Int) < 4) (h : 2000 < text.length) : sealR key iv msk lg kind ver dst src tok sp ph u nl text = ([], 4) := by
 unfold sealR; exact (if_neg (not_or.2 ⟨by rw [hm]; decide, h4⟩)).trans (if_pos h)
theorem sealR_ok {key iv msk : List UInt8} {lg : Bool} {kind : Int} {ver : Nat} {dst src tok : List UInt8} {sp ph : Bool} {u : UInt64} {n : Nat} {text : List UInt8} (hm : mayN lg kind ver dst.length src.length tok.length sp ph (n64 u) n = true) (h4 : ¬ (n : Int) + (text.length : Int) < 4) (h : ¬ 2000 < text.length) : sealR key iv msk lg kind ver dst src tok sp ph u n text = (packB key iv msk (headB lg kind ver dst src tok sp ph (n64 u) n (text.length + 16)) text u n, 0) := by
 unfold sealR; exact (if_neg (not_or.2 ⟨by rw [hm]; decide, h4⟩)).trans (if_neg h)
theorem packB_length (key iv msk H text : List UInt8) (u : UInt64) (nl : Nat) : (packB key iv msk H text u nl).length = H.length + (text.length + 16) := by
 rw [packB, maskW_length, List.length_append, sealed_length]
theorem may_facts {lg : Bool} {kind : Int} {ver dl sl tl : Nat} {sp ph : Bool} {num : Nat} {nl : Int} (hm : mayN lg kind ver dl sl tl sp ph num nl = true) :
  1 ≤ nl ∧ nl ≤ 4 ∧ num ≤ 4611686018427387903 ∧ dl = 8 ∧ sl ≤ 20 ∧ tl ≤ 100 ∧ (lg = false → kind = 0 ∧ ver = 0 ∧ sl = 0 ∧ tl = 0) ∧ (lg = true → (kind = 0 ∨ (kind = 2 ∧ tl = 0)) ∧ sp = false ∧ ph = false) := by
 unfold mayN at hm
 split at hm
 ·cases hm
 rename_i h0
 split at hm
 ·rename_i hl
  have h := of_decide_eq_true hm
  exact ⟨by omega, by omega, by omega, by omega, by omega, by omega, fun _ => h, fun h' => by rw [hl] at h'; cases h'⟩
 ·rename_i hl
  obtain ⟨hk, hs, ht, h1, h2⟩ := of_decide_eq_true hm
  exact ⟨by omega, by omega, by omega, by omega, hs, ht, fun h' => absurd h' hl, fun _ => ⟨hk, h1, h2⟩⟩
theorem headB_length {lg : Bool} {kind : Int} {ver : Nat} {dst src tok : List UInt8} {sp ph : Bool} {num nl rest : Nat} (hd : dst.length = 8) (hs : src.length ≤ 20) (ht : tok.length ≤ 100) (h4 : nl ≤ 4) :
  9 + nl ≤ (headB lg kind ver dst src tok sp ph num nl rest).length ∧ (headB lg kind ver dst src tok sp ph num nl rest).length ≤ 400 := by
 unfold headB
 split
 ·have hl : (longTok kind tok).length ≤ 108 := by
   unfold longTok; split
   ·have := vlen_le tok.length; simp [vin_length]; omega
   ·simp
  unfold longB
  simp [be_length, vin_length, hd]; omega
 ·simp [be_length, hd]; omega
end Vlt
namespace Go.Proofs.Ytjlpppnpdgenfaa
open Go.RowKit Go.Rw Aes Hdr Vlt
attribute [local go_sem ↓] ld16 st16 al16 ld12 shift_shr8 bvs_getElem?
attribute [local go_sem] rld16 rst16 ral16 setRow_alloc_at setRow_alloc_past setRow_drew bvs_setn
theorem put_u (lg : Bool) (kind : Int) (ver : Nat) (dst src tok : List UInt8) (sp ph : Bool) (num nl R : Nat) (hm : mayN lg kind ver dst.length src.length tok.length sp ph num nl = true) (hver : ver < 4294967296) (hR : R ≤ 2016) (vd vs vt : Value) (w : World) (h1 : Sl w vd dst) (h2 : Sl w vs src) (h3 : Sl w vt tok) :
  Calls Try.prog 28 #[.agg (hvA lg kind ver vd vs vt sp ph num nl), .int .i64 (R : Nat)] w fun e w' => ∃ v, e = .returned (.tuple #[v, .int .i64 0]) ∧ Sl w' v (headB lg kind ver dst src tok sp ph num nl R) ∧ Below w.heap.size w w' := by
 obtain ⟨f1, f2, f3, f4, f5, f6, f7, f8⟩ := may_facts hm
 cases lg
 ·obtain ⟨rfl, rfl, hs, ht⟩ := f7 rfl
  obtain rfl : src = [] := List.eq_nil_of_length_eq_zero hs
  obtain rfl : tok = [] := List.eq_nil_of_length_eq_zero ht
  obtain ⟨as_, cs, rfl, -, -, -⟩ := h2
  obtain ⟨at_, ct, rfl, -, -, -⟩ := h3
  exact put_short dst f4 vd as_ at_ cs ct sp ph num nl R (by omega) (by omega) (by omega) (by omega) (by omega) w h1
 ·obtain ⟨hk, rfl, rfl⟩ := f8 rfl
  refine (put_long kind ver dst src tok vd vs vt num nl R hm hver (by omega) w h1 h2 h3).mono ?_
  rintro e w' ⟨v, rfl, o, b⟩
  exact ⟨v, rfl, Own.sl o, b⟩
theorem rput_u (lg : Bool) (kind : Int) (ver : Nat) (dst src tok : List UInt8) (sp ph : Bool) (num nl R : Nat) (hm : mayN lg kind ver dst.length src.length tok.length sp ph num nl = true) (hver : ver < 4294967296) (hR : R ≤ 2016) (vd vs vt : Value) (w : World) (h1 : Sl w vd dst) (h2 : Sl w vs src) (h3 : Sl w vt tok) :
  Calls Try.prog 33 #[.agg (hvA lg kind ver vd vs vt sp ph num nl), .int .i64 (R : Nat)] w fun e w' => ∃ v, e = .returned (.tuple #[v, .int .i64 0]) ∧ w'.ownsRow w.heap.size 5 1 v (headB lg kind ver dst src tok sp ph num nl R).length ((headB lg kind ver dst src tok sp ph num nl R).map bv) ∧ Below w.heap.size w w' := by
 obtain ⟨f1, f2, f3, f4, f5, f6, f7, f8⟩ := may_facts hm
 cases lg
 ·obtain ⟨rfl, rfl, hs, ht⟩ := f7 rfl
  obtain rfl : src = [] := List.eq_nil_of_length_eq_zero hs
  obtain rfl : tok = [] := List.eq_nil_of_length_eq_zero ht
  obtain ⟨as_, cs, rfl, -, -, -⟩ := h2
  obtain ⟨at_, ct, rfl, -, -, -⟩ := h3
  exact rputO_short dst f4 vd as_ at_ cs ct sp ph num nl R (by omega) (by omega) (by omega) (by omega) (by omega) w h1
 ·obtain ⟨hk, rfl, rfl⟩ := f8 rfl
  exact rputO_long kind ver dst src tok vd vs vt num nl R hm hver (by omega) w h1 h2 h3
set_option maxRecDepth 100000 in
set_option maxHeartbeats 1000000 in
theorem rmask_any (key iv msk l : List UInt8) (hk : key.length = 16) (hi : iv.length = 12) (hm : msk.length = 16) (hl : l.length = 16) (v : Value) (w : World) (hs : Sl w v l) :
  Calls Try.prog 35 #[.agg (bvs (ksB key iv msk)), v] w fun e w' => e = .returned (.agg (bvs (block msk l))) ∧ Below w.heap.size w w' := by
 have hKm := ksB_msk hk hi hm
 have hKl := ksB_length hk hi hm
 generalize ksB key iv msk = K at *
 have hld1 : ∀ W, row? W w.heap.size = some (bvs K) → (loadAgg 22 (.pointer (some ⟨w.heap.size, 28, none⟩))).run Try.prog W = .ok (.agg (bvs msk)) W := fun W h => part16 W _ _ _ _ h (by simp only [bvs_size]; omega) hKm
 obtain ⟨ao, cap, rfl, hc, hnn, hp⟩ := id hs
 have HKM := Lib.hid hKm
 clear hKm hp hnn
 go_enter Try.func35, Try.ntmps35
 have hbl := block_length msk l
 have hcp : (Builtin.copy_ #[27, 27] 3 #[.slice (some ⟨w.heap.size + 1 + 1, 0, none⟩) 16 16, .slice ao l.length cap]).run Try.prog (((w.alloc (.cells (bvs K) 36)).alloc (.cells (bvs (zeros 16)) 22)).alloc (.cells (bvs (zeros 16)) 22)) = .ok (goInt 16) (((w.alloc (.cells (bvs K) 36)).alloc (.cells (bvs (zeros 16)) 22)).alloc (.cells (bvs l) 22)) := by
  rw [run_copy_sl (elem := 5) Try.underlying27 (by kernel_rfl) 16 16 (row?_alloc_at _ _ _ _ (by simp)) (zeros_length _) (hs.below (bel3a w _ _ _)), hl]
  rw [setRow_alloc_at _ _ _ _ _ (by simp), List.take_of_length_le (by omega), List.drop_of_length_le (by rw [zeros_length]; exact Nat.le_refl _), List.append_nil]
  rfl
 have HS := Lib.hid hs
 clear hs
 rw [hl] at hcp ⊢
 go_wp2_with fail
 refine (rblock_any msk l hm hl _).mono ?_
 rintro e w4 ⟨rfl, hb⟩
 have z := hb.size
 simp at z
 have r1 : row? w4 (w.heap.size + 1) = some (bvs (zeros 16)) := by rw [row?_below hb (by simp)]; simp [go_sem]
 have hbw : Below w.heap.size w w4 := (bel3 w _ _ _).trans (hb.mono (by simp; omega))
 clear hb hcp
 go_wp2_with fail
 exact ret16 (w.heap.size + 1) (bvs (block msk l)) rfl rfl rfl (row?_setRow_eq r1) (by rw [bvs_size, hbl]) ⟨rfl, below_setRow hbw (by omega) _⟩
theorem rlow_any (f : UInt8) (w : World) : Calls Try.prog 36 #[.int .u8 (n8 f : Nat)] w fun e w' => e = .returned (.int .u8 (n8 (lowB f) : Nat)) ∧ w = w' := by
 by_cases h : (f &&& 128 == 0) = true
 ·have e : lowB f = 31 := by unfold lowB; rw [if_pos h]
  have h' : (f &&& 128 != 0) = false := by simpa using h
  have E := Lib.hid e
  clear e h
  go_enter Try.func36, Try.ntmps36
  go_wp2_with fail
  go_ret
  exact ⟨by rw [E.out]; rfl, rfl⟩
 ·have e : lowB f = 15 := by unfold lowB; rw [if_neg h]
  have h' : (f &&& 128 != 0) = true := by simpa using h
  have E := Lib.hid e
  clear e h
  go_enter Try.func36, Try.ntmps36
  go_wp2_with fail
  go_ret
  exact ⟨by rw [E.out]; rfl, rfl⟩
set_option maxRecDepth 100000 in
set_option maxHeartbeats 1000000 in
theorem clone_any (l : List UInt8) (hl : l.length ≤ 1000000) (v : Value) (w : World) (hs : Sl w v l) :
  Calls Try.prog 29 #[v] w fun e w' => ∃ v', e = .returned v' ∧ w'.ownsRow w.heap.size 5 1 v' l.length (l.map bv) ∧ Below w.heap.size w w' := by
 obtain ⟨i0, hi, hz0, hz1, hz2⟩ := info_parts info8
 obtain ⟨ao, cap, rfl, hc, hnn, -⟩ := id hs
 cases ao with
 | none =>
  obtain rfl := hnn rfl
  obtain rfl : l = [] := List.eq_nil_of_length_eq_zero (by omega)
  have hq : ∀ W, (binOp .eql 27 (.slice none 0 0) (.slice none 0 0)).run Try.prog W = .ok (.bool true) W := fun _ => rfl
  go_enter Try.func29, Try.ntmps29
  go_wp2_with fail
  go_ret
  exact ⟨_, rfl, World.ownsRow_nil _ _ _ _, Below.refl _ _⟩
 | some ad =>
  have HS := Lib.hid hs
  have hq : ∀ W, (binOp .eql 27 (.slice (some ad) l.length cap) (.slice none 0 0)).run Try.prog W = .ok (.bool false) W := fun _ => rfl
  clear hs
  go_enter Try.func29, Try.ntmps29
  go_wp2_with (at_builtin; refine Classical.byContradiction ?_)
  intro hh; apply hh; clear hh
  refine app_sl rfl _ _ 27 rfl w.heap.size 5 i0 Try.underlying27 hi hz0 hz1 hz2 (.slice (some ⟨w.heap.size, 0, none⟩) 0 0) [] rfl (World.ownsRow_lit (base := w.heap.size) (size := 1) w #[] 0 (Nat.le_refl _) (by decide) (by simp)) (.slice (some ad) l.length cap) l rfl (HS.out.below ((Below.refl _ _).alloc (Nat.le_refl _) _)) (by simp; omega) (by simp) ?_
  intro v' w2 hown2 hgrow2
  have hb : Below w.heap.size w w2 := ((Below.refl w.heap.size w).alloc (Nat.le_refl _) (.cells #[] 5)).grown hgrow2 (by simp) (fun q hq => by simp [Value.ownBlock] at hq; omega)
  have O := Lib.hid hown2
  clear hown2 hgrow2
  go_wp2_with fail
  go_ret
  refine ⟨_, rfl, ?_, hb⟩
  have := O.out
  simpa using this
end Go.Proofs.Ytjlpppnpdgenfaa

end
