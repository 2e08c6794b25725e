/- VltW1; VltW2; VltM; VltS; VltT; HstA. -/
import Derived.Test.YthjbmggpleliaaaGreatDoorMhb7
import Derived.Test.YthjbmggpleliaaaGreatDoorMhb17
import Derived.Test.YthjbmggpleliaaaGreatDoorMhb13
import Derived.Test.YthjbmggpleliaaaGreatDoorMhbHdrP
import Derived.Test.YthjbmggpleliaaaGreatDoorMhb18
import Derived.Test.YthjbmggpleliaaaGreatDoorMhbVarW
import Derived.Test.YthjbmggpleliaaaGreatDoorMhb16
import Derived.Test.YthjbmggpleliaaaGreatDoorMhbHdrW7
import Derived.Test.YthjbmggpleliaaaGreatDoorMhb3
import Derived.Test.YthjbmggpleliaaaGreatDoorMhb21
import Derived.Test.YthjbmggpleliaaaGreatDoorMhb23
import Derived.Test.YthjbmggpleliaaaGreatDoorMhb11
import Derived.RegionTactic
import Derived.BigRegion
import Derived.Test.YthjbmggpleliaaaGreatDoorMhb4
section
namespace Vlt
open Go Go.Rw
def nb (num : UInt64) (k : Nat) : UInt8 := low8 (shr64 num (56 - 8 * k))
def nv (iv : List UInt8) (num : UInt64) : Nat → List UInt8
 | 0 => iv
 | k + 1 => (nv iv num k).set (4 + k) (nth (nv iv num k) (4 + k) ^^^ nb num k)
def nonce (iv : List UInt8) (num : UInt64) : List UInt8 := nv iv num 8
theorem nv_length (iv : List UInt8) (num : UInt64) : ∀ k, (nv iv num k).length = iv.length
 | 0 => rfl
 | k + 1 => by rw [nv, List.length_set]; exact nv_length iv num k
theorem nth_set (l : List UInt8) (j i : Nat) (x : UInt8) (h : j < l.length) : nth (l.set j x) i = if i = j then x else nth l i := by
 unfold nth
 rw [List.getElem?_set]
 by_cases e : j = i
 ·subst e; simp [h]
 ·rw [if_neg e, if_neg (fun q => e q.symm)]
end Vlt
namespace Go.Proofs.YthjbmggpleliaaaGreatDoor
open Go.RowKit Go.Rw Aes Vlt
theorem nb_eq (num : UInt64) (k : Nat) : UInt8.ofInt (((n64 num : Nat) : Int) / 2 ^ (56 - 8 * k) % 256) = nb num k := by
 apply UInt8.toNat.inj
 have e : (((n64 num : Nat) : Int) / 2 ^ (56 - 8 * k) % 256) = ((n64 num / 2 ^ (56 - 8 * k) % 256 : Nat) : Int) := by
  generalize 56 - 8 * k = c
  rw [Int.natCast_emod, Int.natCast_ediv, Int.natCast_pow]
  rfl
 rw [e]
 have h := n8_low8 (shr64 num (56 - 8 * k))
 rw [n64_shr64] at h
 show _ = n8 (low8 (shr64 num (56 - 8 * k)))
 rw [h]
 have hl : n64 num / 2 ^ (56 - 8 * k) % 256 < 256 := Nat.mod_lt _ (by decide)
 generalize n64 num / 2 ^ (56 - 8 * k) % 256 = m at hl ⊢
 simp [UInt8.ofInt]
 omega
theorem st12 (x y : Value) : Instr.storeAt 67 x y = storeAgg 67 x y := rfl
theorem al12 : Instr.alloc 67 true (.tuple #[]) = allocAgg 67 := rfl
theorem rst12 (w : World) (b : Nat) (c' : Array Value) (h : (row? w b).map (·.size) = some 12) (hn : c'.size = 12) (h1 : allOne c' = true) : (storeAgg 67 (.pointer (some ⟨b, 0, none⟩)) (.agg c')).run Tryz.prog w = .ok () (w.setRow b c') := store_rule Ag12 w b c' h hn h1
theorem ral12 (w : World) : (allocAgg 67).run Tryz.prog w = .ok (.pointer (some ⟨w.heap.size, 0, none⟩)) (w.alloc (.cells (bvs (zeros 12)) 67)) := alloc_rule (n := 12) (by kernel_rfl) w
attribute [local go_sem ↓] ld12 st12 al12 shift_shr8 shift_shr64 bvs_getElem?
attribute [local go_sem] rld12 rst12 ral12 setRow_alloc_at setRow_alloc_past setRow_drew bvs_setn
set_option maxRecDepth 100000 in
set_option maxHeartbeats 2000000 in
theorem nonce_any (iv : List UInt8) (hl : iv.length = 12) (num : UInt64) (w : World) :
  Calls Tryz.prog 136 #[.agg (bvs iv), .int .u64 (n64 num : Nat)] w fun e w' => e = .returned (.agg (bvs (nonce iv num))) ∧ Below w.heap.size w w' := by
 go_enter Tryz.func136, Tryz.ntmps136
 go_wp2_with fail
 go_loopw [5, 6] (fun _ v6 wr => ∃ k : Nat, k ≤ 8 ∧ v6 = .int .i64 (k : Nat) ∧ row? wr w.heap.size = some (bvs (nv iv num k)) ∧ row? wr (w.heap.size + 1) = some (bvs (zeros 12)) ∧ Below w.heap.size w wr) (fun _ v6 _ => 8 - (intOf v6).toNat)
 case atStart => exact ⟨0, by omega, rfl, by simp [go_sem, nv], by simp [go_sem], bel2 w _ _⟩
 case round =>
  obtain ⟨k, hk, rfl, r0, r1, hb⟩ := hrel
  have hlen := nv_length iv num k
  have R1 := Lib.hid r1
  have HB := Lib.hid hb
  by_cases hlt : k < 8
  case neg =>
   obtain rfl : k = 8 := by omega
   have R0 := Lib.hid r0
   obtain ⟨N, hN⟩ : ∃ N, nv iv num 8 = N := ⟨_, rfl⟩
   rw [hN] at r0 hlen
   have HN := Lib.hid hN
   clear hb hN hlt hk R0
   go_wp2_with fail
   refine bodyPost_ret (results_row Ag12 rfl _ _ (w.heap.size + 1) (bvs N) rfl (row?_setRow_eq R1.out) (by rw [bvs_size, hlen, hl])) rfl ⟨by rw [← HN.out]; rfl, below_setRow HB.out (by omega) _⟩
  have p : decide (k < 8) = true := decide_eq_true hlt
  have F0 := Lib.hid r0
  have c0 : wr.cell? ⟨w.heap.size, 4 + k, none⟩ = some (.int .u8 (n8 (nth (nv iv num k) (4 + k)) : Nat)) := by
   rw [row?_cell r0, bvs_getElem?, if_pos (by omega)]
  have f0 := row?_frozen r0
  have w1 : wrap64 (4 + (k : Int)) = 4 + (k : Int) := IntWalk.wrap64_in _ (by omega)
  obtain ⟨e8, h8, h8'⟩ : ∃ e : Nat, wrap64 (8 * (k : Int)) = e ∧ e = 8 * k := ⟨8 * k, (IntWalk.wrap64_in _ (by clear w1; omega)).trans (by omega), rfl⟩
  have h56 : wrap64 (56 - (e8 : Int)) = ((56 - 8 * k : Nat) : Int) := (IntWalk.wrap64_in _ (by clear w1 h8; omega)).trans (by omega)
  obtain ⟨sh, hsh⟩ : ∃ sh, 56 - 8 * k = sh := ⟨_, rfl⟩
  rw [hsh] at h56
  have cv : IntKind.u8.wrap ((n64 (shr64 num sh) : Nat) : Int) = (n8 (nb num k) : Nat) := by
   unfold nb; rw [hsh, n8_low8]; simp only [IntKind.wrap_u8]; omega
  have HS := Lib.hid (And.intro hsh h8')
  have HK := Lib.hid hlt
  clear r0 r1 hb hsh h8'
  go_wp2_with fail
  refine Rg.wp_region_plan (Rg.row [(0, 3), (1, 3), (2, 3), (3, 0), (4, 3), (5, 3), (6, 3), (7, 3), (8, 3), (9, 3), (10, 3), (11, 3)] [12]) [12] (by kernel_rfl) (by kernel_rfl) ?_
  simp only [Rg.row, Rg.PT.map, List.map_cons, List.map_nil, List.getD_cons_zero, List.getD_cons_succ]
  go_wp2_with (first
   |(with_reducible refine Rg.plan_pure ?_ ?_ ?_); kernel_rfl; kernel_rfl; intro _ _|(with_reducible refine Rg.plan_take ?_ ?_ ?_); kernel_rfl; kernel_rfl; intro _ _|(with_reducible refine Rg.plan_keep ?_ ?_); kernel_rfl; intro K hK|refine hK _ _ (Rg.Keep.refl _) ?_; clear hK|refine hK _ _ (Rg.Keep.of_below (by assumption)) ?_; clear hK|(with_reducible refine Rg.plan_skip ?_ ?_); kernel_rfl|(with_reducible refine Rg.plan_done ?_)|(with_reducible refine Rg.calm_normal ?_))
  rw [nb_eq]
  have hr : row? (wr.setCell ⟨w.heap.size, 4 + k, none⟩ (.int .u8 (n8 (nth (nv iv num k) (4 + k) ^^^ nb num k) : Nat))) w.heap.size = some (bvs (nv iv num (k + 1))) := by
   rw [row?_setCell_eq F0.out, bvs_setn]; rfl
  have hr1 : row? (wr.setCell ⟨w.heap.size, 4 + k, none⟩ (.int .u8 (n8 (nth (nv iv num k) (4 + k) ^^^ nb num k) : Nat))) (w.heap.size + 1) = some (bvs (zeros 12)) := by
   exact ((Mut.refl w.heap.size wr).setCell _ _ _).row R1.out (by omega)
  refine ⟨⟨k + 1, HK.out, rfl, (row?_drew _ _).trans hr, (row?_drew _ _).trans hr1, (HB.out.setCell (Nat.le_refl _) _).drew⟩, ?_⟩
  have := HK.out
  clear w1 h8 h56 cv
  simp [intOf]; omega
end Go.Proofs.YthjbmggpleliaaaGreatDoor

end
section


end
section
namespace Vlt
open Go Go.Rw Aes
def lowB (f : UInt8) : UInt8 := if (f &&& 128 == 0) = true then 31 else 15
def mset (m : List UInt8) (at_ : Nat) (l : List UInt8) : Nat → List UInt8
 | 0 => l
 | k + 1 => (mset m at_ l k).set (at_ + k) (nth (mset m at_ l k) (at_ + k) ^^^ nth m (1 + k))
def smp (l : List UInt8) (at_ : Nat) : List UInt8 := (l.take (at_ + 4 + 16)).drop (at_ + 4)
def mfirst (m l : List UInt8) : List UInt8 := l.set 0 (nth l 0 ^^^ (nth m 0 &&& lowB (nth l 0)))
def mmany (l : List UInt8) (many : Nat) : Nat := if many = 0 then n8 (nth l 0 &&& 3) + 1 else many
def maskW (msk l : List UInt8) (at_ many : Nat) : List UInt8 :=
 mset (block msk (smp l at_)) at_ (mfirst (block msk (smp l at_)) l) (mmany (mfirst (block msk (smp l at_)) l) many)
theorem mset_length (m : List UInt8) (at_ : Nat) (l : List UInt8) : ∀ k, (mset m at_ l k).length = l.length
 | 0 => rfl
 | k + 1 => by rw [mset, List.length_set]; exact mset_length m at_ l k
theorem mfirst_length (m l : List UInt8) : (mfirst m l).length = l.length := by simp [mfirst]
theorem smp_length (l : List UInt8) (at_ : Nat) (h : at_ + 20 ≤ l.length) : (smp l at_).length = 16 := by simp [smp]; omega
theorem maskW_length (msk l : List UInt8) (at_ many : Nat) : (maskW msk l at_ many).length = l.length := by rw [maskW, mset_length, mfirst_length]
theorem and3_lt (x : UInt8) : n8 (x &&& 3) < 4 := by
 have : x.toNat &&& 3 < 4 := by
  have := Nat.and_lt_two_pow x.toNat (n := 2) (y := 3) (by decide)
  exact this
 show (x &&& 3).toNat < 4
 rw [UInt8.toNat_and]; exact this
theorem mmany_bd (l : List UInt8) (many : Nat) (h : many ≤ 4) : 1 ≤ mmany l many ∧ mmany l many ≤ 4 := by
 unfold mmany
 have := and3_lt (nth l 0)
 split <;> omega
end Vlt
namespace Go.Proofs.YthjbmggpleliaaaGreatDoor
open Go.RowKit Go.Rw Aes Vlt
def ksB (key iv msk : List UInt8) : List UInt8 := key ++ iv ++ msk
theorem ksB_length {key iv msk : List UInt8} (hk : key.length = 16) (hi : iv.length = 12) (hm : msk.length = 16) : (ksB key iv msk).length = 44 := by simp [ksB, hk, hi, hm]
theorem ksB_key {key iv msk : List UInt8} (hk : key.length = 16) : (bvs (ksB key iv msk)).extract 0 (0 + 16) = bvs key := by
 rw [bvs_extract]; simp [ksB, ← hk]
theorem ksB_iv {key iv msk : List UInt8} (hk : key.length = 16) (hi : iv.length = 12) : (bvs (ksB key iv msk)).extract 16 (16 + 12) = bvs iv := by
 rw [bvs_extract]
 congr 1
 unfold ksB
 rw [List.take_append_of_le_length (by simp; omega), List.take_of_length_le (by simp; omega), List.drop_append_of_le_length (by omega), List.drop_of_length_le (by omega), List.nil_append]
theorem ksB_msk {key iv msk : List UInt8} (hk : key.length = 16) (hi : iv.length = 12) (hm : msk.length = 16) : (bvs (ksB key iv msk)).extract 28 (28 + 16) = bvs msk := by
 rw [bvs_extract]
 congr 1
 rw [List.take_of_length_le (by rw [ksB_length hk hi hm]; omega)]
 unfold ksB
 rw [List.drop_append_of_le_length (by simp; omega), List.drop_of_length_le (by simp; omega), List.nil_append]
theorem part16 (w : World) (b o : Nat) (c : Array Value) (l : List UInt8) (h : row? w b = some c) (ho : o + 16 ≤ c.size) (he : c.extract o (o + 16) = bvs l) :
  (loadAgg 66 (.pointer (some ⟨b, o, none⟩))).run Tryz.prog w = .ok (.agg (bvs l)) w := by
 rw [part_rule Ag16 w b o (by rw [h]; simpa using ho) (by rw [h]; rfl), h]
 simp [he]
theorem part12 (w : World) (b o : Nat) (c : Array Value) (l : List UInt8) (h : row? w b = some c) (ho : o + 12 ≤ c.size) (he : c.extract o (o + 12) = bvs l) :
  (loadAgg 67 (.pointer (some ⟨b, o, none⟩))).run Tryz.prog w = .ok (.agg (bvs l)) w := by
 rw [part_rule Ag12 w b o (by rw [h]; simpa using ho) (by rw [h]; rfl), h]
 simp [he]
theorem grown_drew {w w' : World} {r : Option Nat} (h : w.grownBy w' r) : w.grownBy w'.drew r := ⟨h.os, h.tape, h.output, h.size, h.block⟩
theorem own_part {w : World} {B g n cap : Nat} {e : TypeId} {l : List UInt8} (h : w.ownsRow B e 1 (.slice (some ⟨g, 0, none⟩) n cap) n (l.map bv)) :
  ∃ cur, row? w g = some cur ∧ l.length = n ∧ n ≤ cap ∧ cur.size = cap ∧ B ≤ g ∧ ∀ o m, o + m ≤ n → cur.extract o (o + m) = bvs ((l.take (o + m)).drop o) := by
 have hl : l.length = n := by have := h.1; simpa using this
 rcases h.2 with ⟨h', _⟩ | ⟨g', cap', cur, h', hb, hg, hnc, hcm, hcs, htake⟩
 ·cases h'
 ·simp only [Value.slice.injEq, Option.some.injEq, Addr.mk.injEq, and_true, true_and] at h'
  obtain ⟨rfl, rfl⟩ := h'
  refine ⟨cur, row?_of hg, hl, hnc, by omega, hb, fun o m hm => ?_⟩
  apply Array.toList_inj.1
  have e1 : cur.toList.take (o + m) = (l.take (o + m)).map bv := by
   rw [List.map_take, ← htake, List.take_take]
   congr 1; omega
  have e2 : (cur.extract o (o + m)).toList = (cur.toList.take (o + m)).drop o := by
   simp [List.drop_take]
  rw [e2, e1]
  simp [bvs, List.map_drop, List.map_take]
attribute [local go_sem ↓] ld16 st16 al16 ld12 shift_shr8 bvs_getElem?
attribute [local go_sem] rld16 rst16 ral16 setRow_alloc_at setRow_alloc_past setRow_drew bvs_setn
set_option maxRecDepth 100000 in
set_option maxHeartbeats 2000000 in
theorem mask_any (key iv msk l : List UInt8) (hk : key.length = 16) (hi : iv.length = 12) (hm : msk.length = 16) (at_ many g cap B : Nat) (hat : at_ + 20 ≤ l.length) (hl : l.length ≤ 1000000) (hmany : many ≤ 4) (w : World)
  (hown : w.ownsRow B 5 1 (.slice (some ⟨g, 0, none⟩) l.length cap) l.length (l.map bv)) :
  Calls Tryz.prog 137 #[.agg (bvs (ksB key iv msk)), .slice (some ⟨g, 0, none⟩) l.length cap, .int .i64 (at_ : Nat), .int .i64 (many : Nat)] w fun e w' =>
   e = .returned (.tuple #[]) ∧ w'.ownsRow B 5 1 (.slice (some ⟨g, 0, none⟩) l.length cap) l.length ((maskW msk l at_ many).map bv) ∧ w.grownBy w' (some g) := by
 obtain ⟨cur, hcur, -, hncap, hcs, hBg, hpart⟩ := own_part hown
 have hgw := row?_lt hcur
 have hKl := ksB_length hk hi hm
 have hKm := ksB_msk hk hi hm
 obtain ⟨S, hS⟩ : ∃ S, smp l at_ = S := ⟨_, rfl⟩
 have hSl : S.length = 16 := by rw [← hS]; exact smp_length l at_ hat
 have hpS := hpart (at_ + 4) 16 (by omega)
 rw [show (l.take (at_ + 4 + 16)).drop (at_ + 4) = S from hS] at hpS
 obtain ⟨M, hM⟩ : ∃ M, block msk S = M := ⟨_, rfl⟩
 have hMl : M.length = 16 := by rw [← hM]; exact block_length _ _
 have HW : maskW msk l at_ many = mset M at_ (mfirst M l) (mmany (mfirst M l) many) := by rw [maskW, hS, hM]
 rw [HW]
 generalize ksB key iv msk = K at *
 have harr : ∀ W, (Instr.arrayAt 66 (.slice (some ⟨g, at_ + 4, none⟩) (l.length - (at_ + 4)) (cap - (at_ + 4)))).run Tryz.prog W = .ok (.pointer (some ⟨g, at_ + 4, none⟩)) W := fun W =>
  run_arrayAt (h := Tryz.underlying66) (hn := by omega) ..
 have hld1 : ∀ W, row? W w.heap.size = some (bvs K) → (loadAgg 66 (.pointer (some ⟨w.heap.size, 28, none⟩))).run Tryz.prog W = .ok (.agg (bvs msk)) W := fun W h => part16 W _ _ _ _ h (by simp only [bvs_size]; omega) hKm
 have hld2 : ∀ W, row? W g = some cur → (loadAgg 66 (.pointer (some ⟨g, at_ + 4, none⟩))).run Tryz.prog W = .ok (.agg (bvs S)) W := fun W h => part16 W _ _ _ _ h (by omega) hpS
 have HS := Lib.hid hS
 have HP := Lib.hid hpart
 have HPS := Lib.hid hpS
 have HOWN := Lib.hid hown
 have HKM := Lib.hid hKm
 have HWW := Lib.hid HW
 have HMM := Lib.hid hM
 have HCS := Lib.hid hcs
 have HCUR := Lib.hid hcur
 clear hS hpart hpS hown hKm HW hM hcs
 go_enter Tryz.func137, Tryz.ntmps137
 go_wp2_with fail
 refine Rg.wp_region_flo [(0, 3), (1, 0), (2, 3), (3, 3), (4, 3), (5, 3)] [
   ⟨6, 17, [], false, fun v _ => v = .pointer (some ⟨g, at_ + 4, none⟩)⟩,
   ⟨7, 18, [6], false, fun v _ => v = .agg (bvs S)⟩,
   ⟨8, 19, [7], false, fun v _ => v = .agg (bvs M)⟩,
   ⟨9, 8, [], true, fun v w' => ∃ B, v = .pointer (some ⟨B, 0, none⟩) ∧ row? w' B = some (bvs (zeros 16))⟩] [(6, 17, []), (7, 18, [6]), (8, 19, [7]), (9, 8, [])] [10] (by kernel_rfl) (by kernel_rfl) rfl ?_
 simp only [Rg.row, Rg.PT.map, List.getD_cons_zero, List.getD_cons_succ]
 go_wp2_with (first
  |(with_reducible refine Rg.plan_pure ?_ ?_ ?_); kernel_rfl; kernel_rfl; intro _ _|(with_reducible refine Rg.plan_take ?_ ?_ ?_); kernel_rfl; kernel_rfl; intro _ _|(with_reducible refine Rg.plan_keep ?_ ?_); kernel_rfl; intro K hK|refine hK _ _ (Rg.Keep.refl _) ?_; clear hK|refine hK _ _ (Rg.Keep.of_below (by assumption)) ?_; clear hK|(with_reducible refine Rg.plan_skip ?_ ?_); kernel_rfl|(with_reducible refine Rg.plan_done ?_)|(with_reducible refine Rg.calm_normal ?_))
 refine Rg.phase_done (Rg.Phase.mk ?_ ?_ ?_)
 ·refine List.forall_mem_cons.2 ⟨?_, List.forall_mem_cons.2 ⟨?_, List.forall_mem_cons.2 ⟨?_, List.forall_mem_cons.2 ⟨?_, fun r hr => (by cases hr)⟩⟩⟩⟩
  ·exact fun v w1 w2 _ h => h
  ·exact fun v w1 w2 _ h => h
  ·exact fun v w1 w2 _ h => h
  ·rintro v w1 w2 hb ⟨B, e, h⟩; exact ⟨B, e, Rg.stable_row hb h⟩
 ·refine List.forall_mem_cons.2 ⟨?_, List.forall_mem_cons.2 ⟨?_, List.forall_mem_cons.2 ⟨?_, List.forall_mem_cons.2 ⟨?_, fun r hr => (by cases hr)⟩⟩⟩⟩
  ·intro us wx hbx hdep K hK
   exact Rg.exec_value (by simp [go_sem, execOp, Rg.puts, harr]) (hK _ _ _ rfl rfl (Below.refl _ _) (fun h => (by cases h)))
  ·intro us wx hbx hdep K hK
   have e6 : us 6 = .pointer (some ⟨g, at_ + 4, none⟩) := (List.forall_mem_cons.1 hdep).1 (by simp)
   exact Rg.exec_value (by simp [go_sem, execOp, Rg.puts, e6, hld2 wx (Rg.stable_row hbx ((row?_alloc_past w _ g hgw).trans HCUR.out))]) (hK _ _ _ rfl rfl (Below.refl _ _) (fun h => (by cases h)))
  ·intro us wx hbx hdep K hK
   have e7 : us 7 = .agg (bvs S) := (List.forall_mem_cons.1 (List.forall_mem_cons.1 hdep).2).1 (by simp)
   refine Rg.exec_call (args := #[.agg (bvs msk), .agg (bvs S)]) (by simp [go_sem, execOp, Rg.puts, e7]) (block_any msk S hm hSl _) ?_
   rintro e wy ⟨rfl, hy⟩
   exact ⟨_, rfl, hK _ _ _ rfl (by rw [HMM.out]) hy (fun h => (by cases h))⟩
  ·intro us wx hbx hdep K hK
   exact Rg.exec_value (by simp [go_sem, execOp, Rg.puts]; rfl) (hK _ _ _ rfl ⟨_, rfl, row?_alloc_at _ _ _ _ rfl⟩ ((Below.refl _ _).alloc (Nat.le_refl _) _) (fun _ => ⟨Nat.le_refl _, by simp [Rg.vblk]⟩))
 ·intro us wZ hbZ hJ hfr hne
  have hfr0 : (w.alloc (.cells (bvs K) 69)).heap.size ≤ Rg.vblk (us 9) := (hfr _ (List.getElem_mem (n := 3) (by simp)) rfl).1
  simp only [List.forall_mem_cons] at hJ
  obtain ⟨e6, e7, e8, ⟨BS, e9, rS⟩, -⟩ := hJ
  rw [e9] at hfr0
  have hsz : w.heap.size + 1 ≤ BS := by simpa [Rg.vblk] using hfr0
  simp only [Rg.puts, List.map_cons, List.map_nil, List.getD_cons_zero, List.getD_cons_succ]
  simp only [e6, e7, e8, e9]
  have hbw : Below w.heap.size w wZ := ((Below.refl w.heap.size w).alloc (Nat.le_refl _) (.cells (bvs K) 69)).drew.trans (hbZ.mono (B' := w.heap.size) (by simp))
  have hBSw := row?_lt rS
  have gb : w.grownBy wZ (some g) := by
   exact ⟨hbw.os, hbw.tape, hbw.output, hbw.size, fun k hk _ => hbw.block k hk⟩
  have oZ : wZ.ownsRow B 5 1 (.slice (some ⟨g, 0, none⟩) l.length cap) l.length (l.map bv) := Go.Rw.own_below HOWN.out hbw
  have o1 : (wZ.setRow BS (bvs M)).ownsRow B 5 1 (.slice (some ⟨g, 0, none⟩) l.length cap) l.length (l.map bv) := own_same oZ (setRow_other wZ BS g _ (by omega))
  have r1 : row? (wZ.setRow BS (bvs M)) BS = some (bvs M) := row?_setRow_eq rS
  have g1 : w.grownBy (wZ.setRow BS (bvs M)) (some g) := ⟨gb.os, gb.tape, gb.output, by simpa using gb.size, fun k hk hne => by rw [setRow_other wZ BS k _ (by omega)]; exact gb.block k hk hne⟩
  have c0 : (wZ.setRow BS (bvs M)).cell? ⟨g, 0, none⟩ = some (.int .u8 (n8 (nth l 0) : Nat)) := by
   rw [o1.cellAt 0 (by omega)]
   simp [nth, bv, n8, show 0 < l.length by omega]
  clear gb oZ e6 e7 e8 e9 hfr hne
  obtain ⟨lo, hlo⟩ : ∃ lo, lowB (nth l 0) = lo := ⟨_, rfl⟩
  have O1 := Lib.hid o1
  have R1 := Lib.hid r1
  have G1 := Lib.hid g1
  clear o1 r1 g1
  by_cases hq : (nth l 0 &&& 128 == 0) = true
  ·have hl0 : lo = 31 := by rw [← hlo]; unfold lowB; rw [if_pos hq]
   have HL0 := Lib.hid (And.intro hl0 hlo)
   clear hl0 hlo
   go_wp2_with (first
    |(with_reducible refine Rg.plan_pure ?_ ?_ ?_); kernel_rfl; kernel_rfl; intro _ _|(with_reducible refine Rg.plan_take ?_ ?_ ?_); kernel_rfl; kernel_rfl; intro _ _|(with_reducible refine Rg.plan_keep ?_ ?_); kernel_rfl; intro K hK|refine hK _ _ (Rg.Keep.refl _) ?_; clear hK|refine hK _ _ (Rg.Keep.of_below (by assumption)) ?_; clear hK|(with_reducible refine Rg.plan_skip ?_ ?_); kernel_rfl|(with_reducible refine Rg.plan_done ?_)|(with_reducible refine Rg.calm_normal ?_))
   rw [show Value.int .u8 31 = .int .u8 (n8 lo : Nat) by rw [HL0.out.1]; rfl]
   have hlo := HL0.out.2
   clear HL0 rS hq hbw hbZ hfr0
   generalize wZ.setRow BS (bvs M) = W1 at O1 R1 G1 c0 ⊢
   obtain ⟨F, hF⟩ : ∃ F, nth l 0 ^^^ (nth M 0 &&& lo) = F := ⟨_, rfl⟩
   have hL1 : mfirst M l = l.set 0 F := by unfold mfirst; rw [hlo, hF]
   have fO := O1.out.frozenAt 0
   have m0 : W1.cell? ⟨BS, 0, none⟩ = some (.int .u8 (n8 (nth M 0) : Nat)) := by rw [row?_cell R1.out, bvs_getElem?, if_pos (by omega)]
   have O2 := Lib.hid (own_stored O1.out 0 F)
   have c2 : (W1.setCell ⟨g, 0, none⟩ (.int .u8 (n8 F : Nat))).cell? ⟨g, 0, none⟩ = some (.int .u8 (n8 F : Nat)) := by
    rw [O2.out.cellAt 0 (by omega), List.getElem?_map, List.getElem?_set, if_pos rfl, if_pos (by omega)]; rfl
   have G2 := Lib.hid (grown_trans G1.out (O1.out.stored 0 (bv F)).2)
   have R2 := Lib.hid (show row? (W1.setCell ⟨g, 0, none⟩ (.int .u8 (n8 F : Nat))) BS = some (bvs M) by rw [row?_setCell_ne _ _ _ _ (by show BS ≠ g; omega)]; exact R1.out)
   have HLO := Lib.hid (And.intro hlo hL1)
   have hn0 : nth (l.set 0 F) 0 = F := by rw [nth_set _ _ _ _ (by omega), if_pos rfl]
   have HN0 := Lib.hid hn0
   clear hlo hL1 hn0
   by_cases hm0 : many = 0
   ·have hz : ((many : Int) == 0) = true := by simpa using hm0
    obtain ⟨nl, hnl⟩ : ∃ nl, n8 (F &&& 3) + 1 = nl := ⟨_, rfl⟩
    have hq3 := and3_lt F
    have q3a : wrap64 ((n8 (F &&& 3) : Nat) : Int) = (n8 (F &&& 3) : Nat) := IntWalk.wrap64_in _ (by omega)
    have q3b : wrap64 (((n8 (F &&& 3) : Nat) : Int) + 1) = (nl : Nat) := (IntWalk.wrap64_in _ (by clear q3a; omega)).trans (by clear q3a; omega)
    have HNL := Lib.hid hnl
    clear hnl hq3
    have hmm : mmany (l.set 0 F) many = nl := by unfold mmany; rw [if_pos hm0, HN0.out, HNL.out]
    have hM4 : nl ≤ 4 := by have := (mmany_bd (l.set 0 F) many hmany).2; omega
    have HMm := Lib.hid hmm
    clear hmm
    go_wp2_with fail
    refine Rg.wp_region_plan (Rg.row [(0, 3), (1, 3), (2, 0), (3, 3), (4, 0), (5, 3), (6, 3), (7, 3), (8, 3)] [9]) [9] (by kernel_rfl) (by kernel_rfl) ?_
    simp only [Rg.row, Rg.PT.map, List.map_cons, List.map_nil, List.getD_cons_zero, List.getD_cons_succ]
    go_wp2_with (first
     |(with_reducible refine Rg.plan_pure ?_ ?_ ?_); kernel_rfl; kernel_rfl; intro _ _|(with_reducible refine Rg.plan_take ?_ ?_ ?_); kernel_rfl; kernel_rfl; intro _ _|(with_reducible refine Rg.plan_keep ?_ ?_); kernel_rfl; intro K hK|refine hK _ _ (Rg.Keep.refl _) ?_; clear hK|refine hK _ _ (Rg.Keep.of_below (by assumption)) ?_; clear hK|(with_reducible refine Rg.plan_skip ?_ ?_); kernel_rfl|(with_reducible refine Rg.plan_done ?_)|(with_reducible refine Rg.calm_normal ?_))
    clear c0 c2 m0 fO
    go_loopw [10, 43] (fun _ v wr => ∃ k : Nat, k ≤ nl ∧ v = .int .i64 (k : Nat) ∧ wr.ownsRow B 5 1 (.slice (some ⟨g, 0, none⟩) l.length cap) l.length ((mset M at_ (l.set 0 F) k).map bv) ∧ row? wr BS = some (bvs M) ∧ w.grownBy wr (some g)) (fun _ v _ => nl - (intOf v).toNat)
    case atStart => exact ⟨0, by omega, rfl, O2.out, R2.out, grown_drew G2.out⟩
    case round =>
     obtain ⟨k, hk, rfl, ho, hr, hg⟩ := hrel
     have hlen : (mset M at_ (l.set 0 F) k).length = l.length := by rw [mset_length, List.length_set]
     have HO := Lib.hid ho
     have HR := Lib.hid hr
     have HG := Lib.hid hg
     by_cases hlt : k < nl
     ·have p : decide (k < nl) = true := decide_eq_true hlt
      have e1 : wr.cell? ⟨g, at_ + k, none⟩ = some (.int .u8 (n8 (nth (mset M at_ (l.set 0 F) k) (at_ + k)) : Nat)) := by
       rw [ho.cellAt (at_ + k) (by omega)]
       simp [nth, bv, n8, show at_ + k < (mset M at_ (l.set 0 F) k).length by omega]
      have e2 : wr.cell? ⟨BS, 1 + k, none⟩ = some (.int .u8 (n8 (nth M (1 + k)) : Nat)) := by rw [row?_cell hr, bvs_getElem?, if_pos (by omega)]
      have e3 := ho.frozenAt (at_ + k)
      have HN := Lib.hid (own_stored ho (at_ + k) (nth (mset M at_ (l.set 0 F) k) (at_ + k) ^^^ nth M (1 + k)))
      have HGN := Lib.hid (grown_trans hg (ho.stored (at_ + k) (bv (nth (mset M at_ (l.set 0 F) k) (at_ + k) ^^^ nth M (1 + k)))).2)
      have HLT := Lib.hid hlt
      have hik : at_ + k < l.length := by omega
      have hik2 : 1 + k < 16 := by omega
      clear ho hr hg
      go_wp2_with fail
      refine Rg.wp_region_plan (Rg.row [(0, 3), (1, 3), (2, 3), (3, 3), (4, 3), (5, 0), (6, 3), (7, 3), (8, 3), (9, 0), (10, 3), (11, 3)] [12]) [12] (by kernel_rfl) (by kernel_rfl) ?_
      simp only [Rg.row, Rg.PT.map, List.map_cons, List.map_nil, List.getD_cons_zero, List.getD_cons_succ]
      go_wp2_with (first
       |(with_reducible refine Rg.plan_pure ?_ ?_ ?_); kernel_rfl; kernel_rfl; intro _ _|(with_reducible refine Rg.plan_take ?_ ?_ ?_); kernel_rfl; kernel_rfl; intro _ _|(with_reducible refine Rg.plan_keep ?_ ?_); kernel_rfl; intro K hK|refine hK _ _ (Rg.Keep.refl _) ?_; clear hK|refine hK _ _ (Rg.Keep.of_below (by assumption)) ?_; clear hK|(with_reducible refine Rg.plan_skip ?_ ?_); kernel_rfl|(with_reducible refine Rg.plan_done ?_)|(with_reducible refine Rg.calm_normal ?_))
      go_roundw
      case rel => exact ⟨k + 1, HLT.out, by go_num, HN.out, (row?_setCell_ne _ _ _ _ (by show BS ≠ g; omega)).trans HR.out, grown_drew HGN.out⟩
      case measure => have := HLT.out; simp [intOf]; omega
     ·obtain rfl : k = nl := by omega
      clear ho hr hg
      go_wp2_with fail
      go_end0
      refine ⟨rfl, ?_, HG.out⟩
      rw [HLO.out.2, HMm.out]; exact HO.out
   ·have hz : ((many : Int) == 0) = false := by simpa using hm0
    have hmm : mmany (l.set 0 F) many = many := by unfold mmany; rw [if_neg hm0]
    have hM4 : many ≤ 4 := by have := (mmany_bd (l.set 0 F) many hmany).2; omega
    have HMm := Lib.hid hmm
    clear hmm
    go_wp2_with fail
    refine Rg.wp_region_plan (Rg.row [(0, 3), (1, 3), (2, 0), (3, 3), (4, 0), (5, 3), (6, 3), (7, 3), (8, 3)] [9]) [9] (by kernel_rfl) (by kernel_rfl) ?_
    simp only [Rg.row, Rg.PT.map, List.map_cons, List.map_nil, List.getD_cons_zero, List.getD_cons_succ]
    go_wp2_with (first
     |(with_reducible refine Rg.plan_pure ?_ ?_ ?_); kernel_rfl; kernel_rfl; intro _ _|(with_reducible refine Rg.plan_take ?_ ?_ ?_); kernel_rfl; kernel_rfl; intro _ _|(with_reducible refine Rg.plan_keep ?_ ?_); kernel_rfl; intro K hK|refine hK _ _ (Rg.Keep.refl _) ?_; clear hK|refine hK _ _ (Rg.Keep.of_below (by assumption)) ?_; clear hK|(with_reducible refine Rg.plan_skip ?_ ?_); kernel_rfl|(with_reducible refine Rg.plan_done ?_)|(with_reducible refine Rg.calm_normal ?_))
    clear c0 c2 m0 fO
    go_loopw [10, 43] (fun _ v wr => ∃ k : Nat, k ≤ many ∧ v = .int .i64 (k : Nat) ∧ wr.ownsRow B 5 1 (.slice (some ⟨g, 0, none⟩) l.length cap) l.length ((mset M at_ (l.set 0 F) k).map bv) ∧ row? wr BS = some (bvs M) ∧ w.grownBy wr (some g)) (fun _ v _ => many - (intOf v).toNat)
    case atStart => exact ⟨0, by omega, rfl, O2.out, R2.out, grown_drew G2.out⟩
    case round =>
     obtain ⟨k, hk, rfl, ho, hr, hg⟩ := hrel
     have hlen : (mset M at_ (l.set 0 F) k).length = l.length := by rw [mset_length, List.length_set]
     have HO := Lib.hid ho
     have HR := Lib.hid hr
     have HG := Lib.hid hg
     by_cases hlt : k < many
     ·have p : decide (k < many) = true := decide_eq_true hlt
      have e1 : wr.cell? ⟨g, at_ + k, none⟩ = some (.int .u8 (n8 (nth (mset M at_ (l.set 0 F) k) (at_ + k)) : Nat)) := by
       rw [ho.cellAt (at_ + k) (by omega)]
       simp [nth, bv, n8, show at_ + k < (mset M at_ (l.set 0 F) k).length by omega]
      have e2 : wr.cell? ⟨BS, 1 + k, none⟩ = some (.int .u8 (n8 (nth M (1 + k)) : Nat)) := by rw [row?_cell hr, bvs_getElem?, if_pos (by omega)]
      have e3 := ho.frozenAt (at_ + k)
      have HN := Lib.hid (own_stored ho (at_ + k) (nth (mset M at_ (l.set 0 F) k) (at_ + k) ^^^ nth M (1 + k)))
      have HGN := Lib.hid (grown_trans hg (ho.stored (at_ + k) (bv (nth (mset M at_ (l.set 0 F) k) (at_ + k) ^^^ nth M (1 + k)))).2)
      have HLT := Lib.hid hlt
      have hik : at_ + k < l.length := by omega
      have hik2 : 1 + k < 16 := by omega
      clear ho hr hg
      go_wp2_with fail
      refine Rg.wp_region_plan (Rg.row [(0, 3), (1, 3), (2, 3), (3, 3), (4, 3), (5, 0), (6, 3), (7, 3), (8, 3), (9, 0), (10, 3), (11, 3)] [12]) [12] (by kernel_rfl) (by kernel_rfl) ?_
      simp only [Rg.row, Rg.PT.map, List.map_cons, List.map_nil, List.getD_cons_zero, List.getD_cons_succ]
      go_wp2_with (first
       |(with_reducible refine Rg.plan_pure ?_ ?_ ?_); kernel_rfl; kernel_rfl; intro _ _|(with_reducible refine Rg.plan_take ?_ ?_ ?_); kernel_rfl; kernel_rfl; intro _ _|(with_reducible refine Rg.plan_keep ?_ ?_); kernel_rfl; intro K hK|refine hK _ _ (Rg.Keep.refl _) ?_; clear hK|refine hK _ _ (Rg.Keep.of_below (by assumption)) ?_; clear hK|(with_reducible refine Rg.plan_skip ?_ ?_); kernel_rfl|(with_reducible refine Rg.plan_done ?_)|(with_reducible refine Rg.calm_normal ?_))
      go_roundw
      case rel => exact ⟨k + 1, HLT.out, by go_num, HN.out, (row?_setCell_ne _ _ _ _ (by show BS ≠ g; omega)).trans HR.out, grown_drew HGN.out⟩
      case measure => have := HLT.out; simp [intOf]; omega
     ·obtain rfl : k = many := by omega
      clear ho hr hg
      go_wp2_with fail
      go_end0
      refine ⟨rfl, ?_, HG.out⟩
      rw [HLO.out.2, HMm.out]; exact HO.out
  ·have hl0 : lo = 15 := by rw [← hlo]; unfold lowB; rw [if_neg hq]
   have HL0 := Lib.hid (And.intro hl0 hlo)
   clear hl0 hlo
   have hq' : (nth l 0 &&& 128 == 0) = false := by simpa using hq
   go_wp2_with (first
    |(with_reducible refine Rg.plan_pure ?_ ?_ ?_); kernel_rfl; kernel_rfl; intro _ _|(with_reducible refine Rg.plan_take ?_ ?_ ?_); kernel_rfl; kernel_rfl; intro _ _|(with_reducible refine Rg.plan_keep ?_ ?_); kernel_rfl; intro K hK|refine hK _ _ (Rg.Keep.refl _) ?_; clear hK|refine hK _ _ (Rg.Keep.of_below (by assumption)) ?_; clear hK|(with_reducible refine Rg.plan_skip ?_ ?_); kernel_rfl|(with_reducible refine Rg.plan_done ?_)|(with_reducible refine Rg.calm_normal ?_))
   rw [show Value.int .u8 15 = .int .u8 (n8 lo : Nat) by rw [HL0.out.1]; rfl]
   have hlo := HL0.out.2
   clear HL0 rS hq hq' hbw hbZ hfr0
   generalize wZ.setRow BS (bvs M) = W1 at O1 R1 G1 c0 ⊢
   obtain ⟨F, hF⟩ : ∃ F, nth l 0 ^^^ (nth M 0 &&& lo) = F := ⟨_, rfl⟩
   have hL1 : mfirst M l = l.set 0 F := by unfold mfirst; rw [hlo, hF]
   have fO := O1.out.frozenAt 0
   have m0 : W1.cell? ⟨BS, 0, none⟩ = some (.int .u8 (n8 (nth M 0) : Nat)) := by rw [row?_cell R1.out, bvs_getElem?, if_pos (by omega)]
   have O2 := Lib.hid (own_stored O1.out 0 F)
   have c2 : (W1.setCell ⟨g, 0, none⟩ (.int .u8 (n8 F : Nat))).cell? ⟨g, 0, none⟩ = some (.int .u8 (n8 F : Nat)) := by
    rw [O2.out.cellAt 0 (by omega), List.getElem?_map, List.getElem?_set, if_pos rfl, if_pos (by omega)]; rfl
   have G2 := Lib.hid (grown_trans G1.out (O1.out.stored 0 (bv F)).2)
   have R2 := Lib.hid (show row? (W1.setCell ⟨g, 0, none⟩ (.int .u8 (n8 F : Nat))) BS = some (bvs M) by rw [row?_setCell_ne _ _ _ _ (by show BS ≠ g; omega)]; exact R1.out)
   have HLO := Lib.hid (And.intro hlo hL1)
   have hn0 : nth (l.set 0 F) 0 = F := by rw [nth_set _ _ _ _ (by omega), if_pos rfl]
   have HN0 := Lib.hid hn0
   clear hlo hL1 hn0
   by_cases hm0 : many = 0
   ·have hz : ((many : Int) == 0) = true := by simpa using hm0
    obtain ⟨nl, hnl⟩ : ∃ nl, n8 (F &&& 3) + 1 = nl := ⟨_, rfl⟩
    have hq3 := and3_lt F
    have q3a : wrap64 ((n8 (F &&& 3) : Nat) : Int) = (n8 (F &&& 3) : Nat) := IntWalk.wrap64_in _ (by omega)
    have q3b : wrap64 (((n8 (F &&& 3) : Nat) : Int) + 1) = (nl : Nat) := (IntWalk.wrap64_in _ (by clear q3a; omega)).trans (by clear q3a; omega)
    have HNL := Lib.hid hnl
    clear hnl hq3
    have hmm : mmany (l.set 0 F) many = nl := by unfold mmany; rw [if_pos hm0, HN0.out, HNL.out]
    have hM4 : nl ≤ 4 := by have := (mmany_bd (l.set 0 F) many hmany).2; omega
    have HMm := Lib.hid hmm
    clear hmm
    go_wp2_with fail
    refine Rg.wp_region_plan (Rg.row [(0, 3), (1, 3), (2, 0), (3, 3), (4, 0), (5, 3), (6, 3), (7, 3), (8, 3)] [9]) [9] (by kernel_rfl) (by kernel_rfl) ?_
    simp only [Rg.row, Rg.PT.map, List.map_cons, List.map_nil, List.getD_cons_zero, List.getD_cons_succ]
    go_wp2_with (first
     |(with_reducible refine Rg.plan_pure ?_ ?_ ?_); kernel_rfl; kernel_rfl; intro _ _|(with_reducible refine Rg.plan_take ?_ ?_ ?_); kernel_rfl; kernel_rfl; intro _ _|(with_reducible refine Rg.plan_keep ?_ ?_); kernel_rfl; intro K hK|refine hK _ _ (Rg.Keep.refl _) ?_; clear hK|refine hK _ _ (Rg.Keep.of_below (by assumption)) ?_; clear hK|(with_reducible refine Rg.plan_skip ?_ ?_); kernel_rfl|(with_reducible refine Rg.plan_done ?_)|(with_reducible refine Rg.calm_normal ?_))
    clear c0 c2 m0 fO
    go_loopw [10, 43] (fun _ v wr => ∃ k : Nat, k ≤ nl ∧ v = .int .i64 (k : Nat) ∧ wr.ownsRow B 5 1 (.slice (some ⟨g, 0, none⟩) l.length cap) l.length ((mset M at_ (l.set 0 F) k).map bv) ∧ row? wr BS = some (bvs M) ∧ w.grownBy wr (some g)) (fun _ v _ => nl - (intOf v).toNat)
    case atStart => exact ⟨0, by omega, rfl, O2.out, R2.out, grown_drew G2.out⟩
    case round =>
     obtain ⟨k, hk, rfl, ho, hr, hg⟩ := hrel
     have hlen : (mset M at_ (l.set 0 F) k).length = l.length := by rw [mset_length, List.length_set]
     have HO := Lib.hid ho
     have HR := Lib.hid hr
     have HG := Lib.hid hg
     by_cases hlt : k < nl
     ·have p : decide (k < nl) = true := decide_eq_true hlt
      have e1 : wr.cell? ⟨g, at_ + k, none⟩ = some (.int .u8 (n8 (nth (mset M at_ (l.set 0 F) k) (at_ + k)) : Nat)) := by
       rw [ho.cellAt (at_ + k) (by omega)]
       simp [nth, bv, n8, show at_ + k < (mset M at_ (l.set 0 F) k).length by omega]
      have e2 : wr.cell? ⟨BS, 1 + k, none⟩ = some (.int .u8 (n8 (nth M (1 + k)) : Nat)) := by rw [row?_cell hr, bvs_getElem?, if_pos (by omega)]
      have e3 := ho.frozenAt (at_ + k)
      have HN := Lib.hid (own_stored ho (at_ + k) (nth (mset M at_ (l.set 0 F) k) (at_ + k) ^^^ nth M (1 + k)))
      have HGN := Lib.hid (grown_trans hg (ho.stored (at_ + k) (bv (nth (mset M at_ (l.set 0 F) k) (at_ + k) ^^^ nth M (1 + k)))).2)
      have HLT := Lib.hid hlt
      have hik : at_ + k < l.length := by omega
      have hik2 : 1 + k < 16 := by omega
      clear ho hr hg
      go_wp2_with fail
      refine Rg.wp_region_plan (Rg.row [(0, 3), (1, 3), (2, 3), (3, 3), (4, 3), (5, 0), (6, 3), (7, 3), (8, 3), (9, 0), (10, 3), (11, 3)] [12]) [12] (by kernel_rfl) (by kernel_rfl) ?_
      simp only [Rg.row, Rg.PT.map, List.map_cons, List.map_nil, List.getD_cons_zero, List.getD_cons_succ]
      go_wp2_with (first
       |(with_reducible refine Rg.plan_pure ?_ ?_ ?_); kernel_rfl; kernel_rfl; intro _ _|(with_reducible refine Rg.plan_take ?_ ?_ ?_); kernel_rfl; kernel_rfl; intro _ _|(with_reducible refine Rg.plan_keep ?_ ?_); kernel_rfl; intro K hK|refine hK _ _ (Rg.Keep.refl _) ?_; clear hK|refine hK _ _ (Rg.Keep.of_below (by assumption)) ?_; clear hK|(with_reducible refine Rg.plan_skip ?_ ?_); kernel_rfl|(with_reducible refine Rg.plan_done ?_)|(with_reducible refine Rg.calm_normal ?_))
      go_roundw
      case rel => exact ⟨k + 1, HLT.out, by go_num, HN.out, (row?_setCell_ne _ _ _ _ (by show BS ≠ g; omega)).trans HR.out, grown_drew HGN.out⟩
      case measure => have := HLT.out; simp [intOf]; omega
     ·obtain rfl : k = nl := by omega
      clear ho hr hg
      go_wp2_with fail
      go_end0
      refine ⟨rfl, ?_, HG.out⟩
      rw [HLO.out.2, HMm.out]; exact HO.out
   ·have hz : ((many : Int) == 0) = false := by simpa using hm0
    have hmm : mmany (l.set 0 F) many = many := by unfold mmany; rw [if_neg hm0]
    have hM4 : many ≤ 4 := by have := (mmany_bd (l.set 0 F) many hmany).2; omega
    have HMm := Lib.hid hmm
    clear hmm
    go_wp2_with fail
    refine Rg.wp_region_plan (Rg.row [(0, 3), (1, 3), (2, 0), (3, 3), (4, 0), (5, 3), (6, 3), (7, 3), (8, 3)] [9]) [9] (by kernel_rfl) (by kernel_rfl) ?_
    simp only [Rg.row, Rg.PT.map, List.map_cons, List.map_nil, List.getD_cons_zero, List.getD_cons_succ]
    go_wp2_with (first
     |(with_reducible refine Rg.plan_pure ?_ ?_ ?_); kernel_rfl; kernel_rfl; intro _ _|(with_reducible refine Rg.plan_take ?_ ?_ ?_); kernel_rfl; kernel_rfl; intro _ _|(with_reducible refine Rg.plan_keep ?_ ?_); kernel_rfl; intro K hK|refine hK _ _ (Rg.Keep.refl _) ?_; clear hK|refine hK _ _ (Rg.Keep.of_below (by assumption)) ?_; clear hK|(with_reducible refine Rg.plan_skip ?_ ?_); kernel_rfl|(with_reducible refine Rg.plan_done ?_)|(with_reducible refine Rg.calm_normal ?_))
    clear c0 c2 m0 fO
    go_loopw [10, 43] (fun _ v wr => ∃ k : Nat, k ≤ many ∧ v = .int .i64 (k : Nat) ∧ wr.ownsRow B 5 1 (.slice (some ⟨g, 0, none⟩) l.length cap) l.length ((mset M at_ (l.set 0 F) k).map bv) ∧ row? wr BS = some (bvs M) ∧ w.grownBy wr (some g)) (fun _ v _ => many - (intOf v).toNat)
    case atStart => exact ⟨0, by omega, rfl, O2.out, R2.out, grown_drew G2.out⟩
    case round =>
     obtain ⟨k, hk, rfl, ho, hr, hg⟩ := hrel
     have hlen : (mset M at_ (l.set 0 F) k).length = l.length := by rw [mset_length, List.length_set]
     have HO := Lib.hid ho
     have HR := Lib.hid hr
     have HG := Lib.hid hg
     by_cases hlt : k < many
     ·have p : decide (k < many) = true := decide_eq_true hlt
      have e1 : wr.cell? ⟨g, at_ + k, none⟩ = some (.int .u8 (n8 (nth (mset M at_ (l.set 0 F) k) (at_ + k)) : Nat)) := by
       rw [ho.cellAt (at_ + k) (by omega)]
       simp [nth, bv, n8, show at_ + k < (mset M at_ (l.set 0 F) k).length by omega]
      have e2 : wr.cell? ⟨BS, 1 + k, none⟩ = some (.int .u8 (n8 (nth M (1 + k)) : Nat)) := by rw [row?_cell hr, bvs_getElem?, if_pos (by omega)]
      have e3 := ho.frozenAt (at_ + k)
      have HN := Lib.hid (own_stored ho (at_ + k) (nth (mset M at_ (l.set 0 F) k) (at_ + k) ^^^ nth M (1 + k)))
      have HGN := Lib.hid (grown_trans hg (ho.stored (at_ + k) (bv (nth (mset M at_ (l.set 0 F) k) (at_ + k) ^^^ nth M (1 + k)))).2)
      have HLT := Lib.hid hlt
      have hik : at_ + k < l.length := by omega
      have hik2 : 1 + k < 16 := by omega
      clear ho hr hg
      go_wp2_with fail
      refine Rg.wp_region_plan (Rg.row [(0, 3), (1, 3), (2, 3), (3, 3), (4, 3), (5, 0), (6, 3), (7, 3), (8, 3), (9, 0), (10, 3), (11, 3)] [12]) [12] (by kernel_rfl) (by kernel_rfl) ?_
      simp only [Rg.row, Rg.PT.map, List.map_cons, List.map_nil, List.getD_cons_zero, List.getD_cons_succ]
      go_wp2_with (first
       |(with_reducible refine Rg.plan_pure ?_ ?_ ?_); kernel_rfl; kernel_rfl; intro _ _|(with_reducible refine Rg.plan_take ?_ ?_ ?_); kernel_rfl; kernel_rfl; intro _ _|(with_reducible refine Rg.plan_keep ?_ ?_); kernel_rfl; intro K hK|refine hK _ _ (Rg.Keep.refl _) ?_; clear hK|refine hK _ _ (Rg.Keep.of_below (by assumption)) ?_; clear hK|(with_reducible refine Rg.plan_skip ?_ ?_); kernel_rfl|(with_reducible refine Rg.plan_done ?_)|(with_reducible refine Rg.calm_normal ?_))
      go_roundw
      case rel => exact ⟨k + 1, HLT.out, by go_num, HN.out, (row?_setCell_ne _ _ _ _ (by show BS ≠ g; omega)).trans HR.out, grown_drew HGN.out⟩
      case measure => have := HLT.out; simp [intOf]; omega
     ·obtain rfl : k = many := by omega
      clear ho hr hg
      go_wp2_with fail
      go_end0
      refine ⟨rfl, ?_, HG.out⟩
      rw [HLO.out.2, HMm.out]; exact HO.out
end Go.Proofs.YthjbmggpleliaaaGreatDoor

end
section
namespace Vlt
open Go Go.Rw Aes Hdr Gcm
def headB (lg : Bool) (kind : Int) (ver : Nat) (dst src tok : List UInt8) (sp ph : Bool) (num nl rest : Nat) : List UInt8 :=
 if lg = true then longB kind ver dst src tok num nl rest else [first sp ph nl] ++ dst ++ be num nl
def packB (key iv msk H text : List UInt8) (u : UInt64) (nl : Nat) : List UInt8 :=
 maskW msk (H ++ sealed key (nonce iv u) text H) (H.length - nl) nl
def sealR (key iv msk : List UInt8) (lg : Bool) (kind : Int) (ver : Nat) (dst src tok : List UInt8) (sp ph : Bool) (u : UInt64) (nl : Int) (text : List UInt8) : List UInt8 × Int :=
 if mayN lg kind ver dst.length src.length tok.length sp ph (n64 u) nl = false ∨ nl + (text.length : Int) < 4 then ([], 2)
 else if 2000 < text.length then ([], 4)
 else (packB key iv msk (headB lg kind ver dst src tok sp ph (n64 u) nl.toNat (text.length + 16)) text u nl.toNat, 0)
theorem sealR_no {key iv msk : List UInt8} {lg : Bool} {kind : Int} {ver : Nat} {dst src tok : List UInt8} {sp ph : Bool} {u : UInt64} {nl : Int} {text : List UInt8} (h : mayN lg kind ver dst.length src.length tok.length sp ph (n64 u) nl = false) : sealR key iv msk lg kind ver dst src tok sp ph u nl text = ([], 2) := by
 unfold sealR; exact if_pos (Or.inl h)
theorem sealR_low {key iv msk : List UInt8} {lg : Bool} {kind : Int} {ver : Nat} {dst src tok : List UInt8} {sp ph : Bool} {u : UInt64} {nl : Int} {text : List UInt8} (h : nl + (text.length : Int) < 4) : sealR key iv msk lg kind ver dst src tok sp ph u nl text = ([], 2) := by
 unfold sealR; exact if_pos (Or.inr h)
theorem sealR_long {key iv msk : List UInt8} {lg : Bool} {kind : Int} {ver : Nat} {dst src tok : List UInt8} {sp ph : Bool} {u : UInt64} {nl : Int} {text : List UInt8} (hm : mayN lg kind ver dst.length src.length tok.length sp ph (n64 u) nl = true) (h4 : ¬ nl + (text.length : Int) < 4) (h : 2000 < text.length) : sealR key iv msk lg kind ver dst src tok sp ph u nl text = ([], 4) := by
 unfold sealR; exact (if_neg (not_or.2 ⟨by rw [hm]; decide, h4⟩)).trans (if_pos h)
theorem sealR_ok {key iv msk : List UInt8} {lg : Bool} {kind : Int} {ver : Nat} {dst src tok : List UInt8} {sp ph : Bool} {u : UInt64} {n : Nat} {text : List UInt8} (hm : mayN lg kind ver dst.length src.length tok.length sp ph (n64 u) n = true) (h4 : ¬ (n : Int) + (text.length : Int) < 4) (h : ¬ 2000 < text.length) : sealR key iv msk lg kind ver dst src tok sp ph u n text = (packB key iv msk (headB lg kind ver dst src tok sp ph (n64 u) n (text.length + 16)) text u n, 0) := by
 unfold sealR; exact (if_neg (not_or.2 ⟨by rw [hm]; decide, h4⟩)).trans (if_neg h)
theorem packB_length (key iv msk H text : List UInt8) (u : UInt64) (nl : Nat) : (packB key iv msk H text u nl).length = H.length + (text.length + 16) := by
 rw [packB, maskW_length, List.length_append, sealed_length]
theorem may_facts {lg : Bool} {kind : Int} {ver dl sl tl : Nat} {sp ph : Bool} {num : Nat} {nl : Int} (hm : mayN lg kind ver dl sl tl sp ph num nl = true) :
  1 ≤ nl ∧ nl ≤ 4 ∧ num ≤ 4611686018427387903 ∧ dl = 8 ∧ sl ≤ 20 ∧ tl ≤ 100 ∧ (lg = false → kind = 0 ∧ ver = 0 ∧ sl = 0 ∧ tl = 0) ∧ (lg = true → (kind = 0 ∨ (kind = 2 ∧ tl = 0)) ∧ sp = false ∧ ph = false) := by
 unfold mayN at hm
 split at hm
 ·cases hm
 rename_i h0
 split at hm
 ·rename_i hl
  have h := of_decide_eq_true hm
  exact ⟨by omega, by omega, by omega, by omega, by omega, by omega, fun _ => h, fun h' => by rw [hl] at h'; cases h'⟩
 ·rename_i hl
  obtain ⟨hk, hs, ht, h1, h2⟩ := of_decide_eq_true hm
  exact ⟨by omega, by omega, by omega, by omega, hs, ht, fun h' => absurd h' hl, fun _ => ⟨hk, h1, h2⟩⟩
theorem headB_length {lg : Bool} {kind : Int} {ver : Nat} {dst src tok : List UInt8} {sp ph : Bool} {num nl rest : Nat} (hd : dst.length = 8) (hs : src.length ≤ 20) (ht : tok.length ≤ 100) (h4 : nl ≤ 4) :
  9 + nl ≤ (headB lg kind ver dst src tok sp ph num nl rest).length ∧ (headB lg kind ver dst src tok sp ph num nl rest).length ≤ 400 := by
 unfold headB
 split
 ·have hl : (longTok kind tok).length ≤ 108 := by
   unfold longTok; split
   ·have := vlen_le tok.length; simp [vin_length]; omega
   ·simp
  unfold longB
  simp [be_length, vin_length, hd]; omega
 ·simp [be_length, hd]; omega
end Vlt
namespace Go.Proofs.YthjbmggpleliaaaGreatDoor
open Go.RowKit Go.Rw Aes Hdr Vlt
attribute [local go_sem ↓] ld16 st16 al16 ld12 shift_shr8 bvs_getElem?
attribute [local go_sem] rld16 rst16 ral16 setRow_alloc_at setRow_alloc_past setRow_drew bvs_setn
theorem put_u (lg : Bool) (kind : Int) (ver : Nat) (dst src tok : List UInt8) (sp ph : Bool) (num nl R : Nat) (hm : mayN lg kind ver dst.length src.length tok.length sp ph num nl = true) (hver : ver < 4294967296) (hR : R ≤ 2016) (vd vs vt : Value) (w : World) (h1 : Sl w vd dst) (h2 : Sl w vs src) (h3 : Sl w vt tok) :
  Calls Tryz.prog 92 #[.agg (hvA lg kind ver vd vs vt sp ph num nl), .int .i64 (R : Nat)] w fun e w' => ∃ v, e = .returned (.tuple #[v, .int .i64 0]) ∧ Sl w' v (headB lg kind ver dst src tok sp ph num nl R) ∧ Below w.heap.size w w' := by
 obtain ⟨f1, f2, f3, f4, f5, f6, f7, f8⟩ := may_facts hm
 cases lg
 ·obtain ⟨rfl, rfl, hs, ht⟩ := f7 rfl
  obtain rfl : src = [] := List.eq_nil_of_length_eq_zero hs
  obtain rfl : tok = [] := List.eq_nil_of_length_eq_zero ht
  obtain ⟨as_, cs, rfl, -, -, -⟩ := h2
  obtain ⟨at_, ct, rfl, -, -, -⟩ := h3
  exact put_short dst f4 vd as_ at_ cs ct sp ph num nl R (by omega) (by omega) (by omega) (by omega) (by omega) w h1
 ·obtain ⟨hk, rfl, rfl⟩ := f8 rfl
  refine (put_long kind ver dst src tok vd vs vt num nl R hm hver (by omega) w h1 h2 h3).mono ?_
  rintro e w' ⟨v, rfl, o, b⟩
  exact ⟨v, rfl, Own.sl o, b⟩
set_option maxRecDepth 100000 in
set_option maxHeartbeats 1000000 in
theorem clone_any (l : List UInt8) (hl : l.length ≤ 1000000) (v : Value) (w : World) (hs : Sl w v l) :
  Calls Tryz.prog 35 #[v] w fun e w' => ∃ v', e = .returned v' ∧ w'.ownsRow w.heap.size 5 1 v' l.length (l.map bv) ∧ Below w.heap.size w w' := by
 obtain ⟨i0, hi, hz0, hz1, hz2⟩ := info_parts info8
 obtain ⟨ao, cap, rfl, hc, hnn, -⟩ := id hs
 cases ao with
 | none =>
  obtain rfl := hnn rfl
  obtain rfl : l = [] := List.eq_nil_of_length_eq_zero (by omega)
  have hq : ∀ W, (binOp .eql 22 (.slice none 0 0) (.slice none 0 0)).run Tryz.prog W = .ok (.bool true) W := fun _ => rfl
  go_enter Tryz.func35, Tryz.ntmps35
  go_wp2_with fail
  go_ret
  exact ⟨_, rfl, World.ownsRow_nil _ _ _ _, Below.refl _ _⟩
 | some ad =>
  have HS := Lib.hid hs
  have hq : ∀ W, (binOp .eql 22 (.slice (some ad) l.length cap) (.slice none 0 0)).run Tryz.prog W = .ok (.bool false) W := fun _ => rfl
  clear hs
  go_enter Tryz.func35, Tryz.ntmps35
  go_wp2_with (at_builtin; refine Classical.byContradiction ?_)
  intro hh; apply hh; clear hh
  refine app_sl rfl _ _ 22 rfl w.heap.size 5 i0 Tryz.underlying22 hi hz0 hz1 hz2 (.slice (some ⟨w.heap.size, 0, none⟩) 0 0) [] rfl (World.ownsRow_lit (base := w.heap.size) (size := 1) w #[] 0 (Nat.le_refl _) (by decide) (by simp)) (.slice (some ad) l.length cap) l rfl (HS.out.below ((Below.refl _ _).alloc (Nat.le_refl _) _)) (by simp; omega) (by simp) ?_
  intro v' w2 hown2 hgrow2
  have hb : Below w.heap.size w w2 := ((Below.refl w.heap.size w).alloc (Nat.le_refl _) (.cells #[] 5)).grown hgrow2 (by simp) (fun q hq => by simp [Value.ownBlock] at hq; omega)
  have O := Lib.hid hown2
  clear hown2 hgrow2
  go_wp2_with fail
  go_ret
  refine ⟨_, rfl, ?_, hb⟩
  have := O.out
  simpa using this
end Go.Proofs.YthjbmggpleliaaaGreatDoor

end
section
namespace Go.Proofs.YthjbmggpleliaaaGreatDoor
open Go.RowKit Go.Rw Aes Hdr Vlt
theorem mk_bytesV (n : Nat) (h : n ≤ 1000000) (w : World) : (Instr.makeSlice 22 (.int .i64 (n : Nat)) (.int .i64 (n : Nat))).run Tryz.prog w = .ok (.slice (some ⟨w.heap.size, 0, none⟩) n n) (w.alloc (.cells (bvs (List.replicate n 0)) 5)) := by
 obtain ⟨i0, hi, hz0, hz1, hz2⟩ := info_parts info8
 rw [run_make w _ _ i0 _ Tryz.underlying22 hi hz0 .i64 .i64 (n : Nat) (n : Nat) (by omega) (by omega) (by rw [hz2]; omega) (by omega)]
 rw [hz1, Nat.mul_one]
 simp only [Int.toNat_natCast]
 have e : madeCells (Value.int .u8 0).cells n = bvs (List.replicate n 0) := Array.toList_inj.1 (by rw [show (Value.int .u8 0).cells = #[Value.int .u8 0] from rfl, zeros_made]; simp [bvs])
 rw [e]
def tbA (vo : Value) (last : Int) (vm : Value) : Array Value := #[vo, .int .i64 last, vm]
theorem run_mm (t : TypeId) (w : World) : (Instr.makeMap t none).run Tryz.prog w = .ok (.map (some w.heap.size)) (w.alloc (.map #[] 0)) := rfl
theorem cap_take (l : List UInt8) (n : Nat) : l.take n ++ (List.replicate n (0 : UInt8)).drop l.length = l.take n ++ List.replicate (n - l.length) 0 := by rw [List.drop_replicate]
def padded (l : List UInt8) (n : Nat) : List UInt8 := l.take n ++ List.replicate (n - l.length) 0
theorem padded_length (l : List UInt8) (n : Nat) : (padded l n).length = n := by simp [padded]; omega
set_option maxRecDepth 100000 in
set_option maxHeartbeats 2000000 in
theorem tseal_any (B : Nat) (n : Nat) (hn : n ≤ 2000) (l : List UInt8) (hl : l.length ≤ 1000000) (vo vm : Value) (last : Nat) (hla : last ≤ 1000) (w : World) (hr : row? w B = some (tbA vo (last : Nat) vm)) (hs : Sl w vo l) (hne : ∀ b off n cap, vo = .slice (some ⟨b, off, none⟩) n cap → 0 < n → b ≠ B) :
  Calls Tryz.prog 77 #[.pointer (some ⟨B, 0, none⟩), .int .i64 (n : Nat)] w fun e w' => ∃ v vo', e = .returned (.tuple #[v, .int .i64 (last + 1 : Nat)]) ∧ w'.ownsRow w.heap.size 5 1 v n ((padded l n).map bv) ∧ row? w' B = some (tbA vo' (last + 1 : Nat) vm) ∧ Sl w' vo' (l.drop n) ∧
   (∀ b off n cap, vo' = .slice (some ⟨b, off, none⟩) n cap → 0 < n → ∃ off' n' cap', vo = .slice (some ⟨b, off', none⟩) n' cap' ∧ 0 < n') ∧ Mut B w w' := by
 have hmk := mk_bytesV n (by omega)
 obtain ⟨ao, cap, rfl, hcap, -, -⟩ := id hs
 have hBw := row?_lt hr
 have HS := Lib.hid hs
 have HR := Lib.hid hr
 have HNE := Lib.hid hne
 have hrm : (Nat.min l.length n : Nat) = min l.length n := rfl
 have hcopy := run_copy_sl (P := Tryz.prog) (dT := 22) (sT := 22) (ty := 3) (elem := 5) Tryz.underlying22 (by kernel_rfl) (w := (w.alloc (.cells (bvs (List.replicate n 0)) 5)).drew) (g := w.heap.size) (c := List.replicate n 0) (l := l) (v := .slice ao l.length cap) n n ((row?_drew _ _).trans (row?_alloc_at _ _ _ _ rfl)) (by simp) (hs.below ((Below.refl _ _).alloc (Nat.le_refl _) _).drew)
 rw [setRow_drew, setRow_alloc_at _ _ _ _ _ rfl, cap_take] at hcopy
 rw [show l.take n ++ List.replicate (n - l.length) 0 = padded l n from rfl] at hcopy
 obtain ⟨mm, hmm⟩ : ∃ mm, Nat.min l.length n = mm := ⟨_, rfl⟩
 rw [hmm] at hcopy
 have hml : mm ≤ l.length := by rw [← hmm]; exact Nat.min_le_left _ _
 have r1 : row? (w.alloc (.cells (bvs (List.replicate n 0)) 5)) B = some (tbA (.slice ao l.length cap) (last : Nat) vm) := by rw [row?_alloc_past _ _ _ hBw]; exact hr
 have c0 : (w.alloc (.cells (bvs (List.replicate n 0)) 5)).cell? ⟨B, 0, none⟩ = some (.slice ao l.length cap) := row?_cell r1 0
 have HMM := Lib.hid hmm
 have R1 := Lib.hid r1
 clear hr hs hne hrm hmm r1
 go_enter Tryz.func77, Tryz.ntmps77
 go_wp2_with fail
 have r2 : row? (w.alloc (.cells (bvs (padded l n)) 5)) B = some (tbA (.slice ao l.length cap) (last : Nat) vm) := by rw [row?_alloc_past _ _ _ hBw]; exact HR.out
 have c0' : (w.alloc (.cells (bvs (padded l n)) 5)).cell? ⟨B, 0, none⟩ = some (.slice ao l.length cap) := row?_cell r2 0
 have f0 := row?_frozen r2 0
 have f1 := row?_frozen R1.out 0
 have R2 := Lib.hid r2
 clear r2
 go_region
 have hX : (if cap = mm then ao else Option.map (fun x => x.add mm) ao) = cutA ao mm cap := by unfold cutA; rw [Nat.mul_one]
 rw [hX]
 have hsx : Sl w (.slice (cutA ao mm cap) (l.length - mm) (cap - mm)) (l.drop n) := by
  have := HS.out.cut mm l.length hml (Nat.le_refl _)
  rw [List.take_length] at this
  have e : l.drop mm = l.drop n := by
   rw [← HMM.out]
   show l.drop (min l.length n) = _
   rcases Nat.le_total l.length n with h | h
   ·rw [Nat.min_eq_left h, List.drop_of_length_le (Nat.le_refl _), List.drop_of_length_le h]
   ·rw [Nat.min_eq_right h]
  rw [e] at this
  exact this
 have hblk : ∀ b off n' cap', Value.slice (cutA ao mm cap) (l.length - mm) (cap - mm) = .slice (some ⟨b, off, none⟩) n' cap' → 0 < n' → ∃ off' n' cap', Value.slice ao l.length cap = .slice (some ⟨b, off', none⟩) n' cap' ∧ 0 < n' := by
  intro b off n' cap' e h0
  injection e with e1 e2 e3
  obtain ⟨ao', cap'', e', -, -, hp⟩ := HS.out
  cases e'
  obtain ⟨b0, off0, rfl, -⟩ := hp (by omega)
  unfold cutA at e1
  split at e1
  ·injection e1 with e1; injection e1 with e1; subst e1; exact ⟨_, _, _, rfl, by omega⟩
  ·simp only [Option.map_some, Addr.add_lit] at e1
   injection e1 with e1; injection e1 with e1; subst e1; exact ⟨_, _, _, rfl, by omega⟩
 have HBK := Lib.hid hblk
 generalize (Value.slice (cutA ao mm cap) (l.length - mm) (cap - mm)) = vx at hsx HBK ⊢
 have w2r : row? ((w.setCell ⟨B, 0, none⟩ vx).alloc (.cells (bvs (padded l n)) 5)).drew B = some (tbA vx (last : Nat) vm) := by
  rw [row?_drew, row?_alloc_past _ _ _ (by simpa using hBw), row?_setCell_eq HR.out]; rfl
 have w2o : ((w.setCell ⟨B, 0, none⟩ vx).alloc (.cells (bvs (padded l n)) 5)).drew.ownsRow w.heap.size 5 1 (.slice (some ⟨w.heap.size, 0, none⟩) n n) n ((padded l n).map bv) := by
  have h := World.ownsRow_lit (base := w.heap.size) (size := 1) (e := 5) (w.setCell ⟨B, 0, none⟩ vx) (bvs (padded l n)) n (by simp) (by unfold maxLen; omega) (by rw [bvs_size, padded_length, Nat.mul_one])
  have e1 : (w.setCell ⟨B, 0, none⟩ vx).heap.size = w.heap.size := by simp
  rw [e1] at h
  have e2 : (bvs (padded l n)).toList = (padded l n).map bv := by simp [bvs]
  rw [e2] at h
  exact h.drew
 have w2m : Mut B w ((w.setCell ⟨B, 0, none⟩ vx).alloc (.cells (bvs (padded l n)) 5)).drew := (((Mut.refl B w).setCell 0 none vx).trans (Mut.of_below ((Below.refl _ _).alloc (Nat.le_refl _) _))).drew
 generalize ((w.setCell ⟨B, 0, none⟩ vx).alloc (.cells (bvs (padded l n)) 5)).drew = W2 at w2r w2o w2m ⊢
 clear hblk hX c0 c0' f0 f1 R1 R2 hcopy HR HMM
 have c1 : W2.cell? ⟨B, 1, none⟩ = some (.int .i64 (last : Nat)) := row?_cell w2r 1
 have f1 := row?_frozen w2r 1
 have W3r := Lib.hid (show row? (W2.setCell ⟨B, 1, none⟩ (.int .i64 ((last : Int) + 1))) B = some (tbA vx (last + 1 : Nat) vm) by rw [row?_setCell_eq w2r]; rfl)
 have W3m := Lib.hid (w2m.setCell 1 none (.int .i64 ((last : Int) + 1)))
 have W3o := Lib.hid (((Mut.refl B W2).setCell 1 none (.int .i64 ((last : Int) + 1))))
 have W2o := Lib.hid w2o
 clear w2r w2o w2m hmk
 go_wp2_with fail
 generalize W2.setCell ⟨B, 1, none⟩ (.int .i64 ((last : Int) + 1)) = W3 at W3r W3m W3o ⊢
 have c1' : W3.cell? ⟨B, 1, none⟩ = some (.int .i64 ((last : Int) + 1)) := row?_cell W3r.out 1
 clear c1 f1
 go_region
 all_goals (go_wp2_with fail)
 go_ret2
 have hne : ∀ q, (Value.slice (some ⟨w.heap.size, 0, none⟩) n n).ownBlock = some q → some q ≠ some B := fun q hq h => by
  simp [Value.ownBlock] at hq; injection h; omega
 refine ⟨_, vx, rfl, (own_grown (r := some B) W2o.out ⟨W3o.out.os, W3o.out.tape, W3o.out.output, W3o.out.size, fun k hk hne => W3o.out.block k hk (fun e => hne (by rw [e]))⟩ hne).drew, (row?_drew _ _).trans W3r.out, ?_, HBK.out, W3m.out.drew⟩
 refine (W3m.out.drew.sl hsx (fun b off n' cap' e h0 => ?_))
 obtain ⟨off', n'', cap'', e', h0'⟩ := HBK.out b off n' cap' e h0
 exact HNE.out b off' n'' cap'' e' h0'
end Go.Proofs.YthjbmggpleliaaaGreatDoor

end
section
namespace Hst
open Go Go.Rw
structure HS where
 role : Nat
 addr : Int
 ideal : Bool
 secret : Value
 tape : Value
 table : Value
 reset : Value
 at_ : Nat
 made : Nat
 ids : Nat
 resets : Nat
 acc : Bool
 asks : Value
 born : Nat
 used : Bool
 closing : Bool
 turn : Bool
 cur : Value
 begun : Value
 seen : Value
 inbox : Value
 dues : Value
 known : Value
 got : Value
 went : Value
def HS.row (s : HS) : Array Value := #[.int .i64 (s.role : Nat), .int .i64 s.addr, .bool s.ideal, s.secret, s.tape, s.table, s.reset, .int .i64 (s.at_ : Nat), .int .i64 (s.made : Nat), .int .i64 (s.ids : Nat), .int .i64 (s.resets : Nat), .bool s.acc, s.asks, .int .i64 (s.born : Nat), .bool s.used, .bool s.closing, .bool s.turn, s.cur, s.begun, s.seen, s.inbox, s.dues, s.known, s.got, s.went]
theorem HS.row_size (s : HS) : s.row.size = 25 := rfl
theorem HS.at0 (s : HS) : s.row[0]? = some (.int .i64 (s.role : Nat)) := rfl
theorem HS.at1 (s : HS) : s.row[1]? = some (.int .i64 s.addr) := rfl
theorem HS.at14 (s : HS) : s.row[14]? = some (.bool s.used) := rfl
def HS.bare (s : HS) (m : Nat) : HS := { s with cur := .pointer none, begun := .slice none 0 0, used := false, closing := false, turn := false, dues := .slice none 0 0, seen := .map (some m), inbox := .map (some (m + 1)), known := .map (some (m + 2)), got := .map (some (m + 3)), went := .map (some (m + 4)) }
end Hst
namespace Go.Proofs.YthjbmggpleliaaaGreatDoor
open Go.RowKit Go.Rw Aes Hdr Vlt Hst
def HR (w : World) (H : Nat) (s : HS) : Prop := RT w H 61 s.row
theorem HR.keep {S : Nat → Prop} {w w' : World} {H : Nat} {s : HS} (h : HR w H s) (hm : MutS S w w') (hn : ¬ S H) : HR w' H s := RT.keep hm h hn
theorem HR.below {w w' : World} {H : Nat} {s : HS} (h : HR w H s) (hb : Below w.heap.size w w') : HR w' H s := RT.below h hb
theorem HR.c {w : World} {H : Nat} {s : HS} (h : HR w H s) (i : Nat) : w.cell? ⟨H, i, none⟩ = s.row[i]? := row?_cell h.row i
theorem HR.f {w : World} {H : Nat} {s : HS} (h : HR w H s) (i : Nat) : w.frozen? ⟨H, i, none⟩ = false := row?_frozen h.row i
def OwnB (w : World) (N : Nat) (v : Value) (l : List UInt8) : Prop := w.ownsRow N 5 1 v l.length (l.map bv)
theorem OwnB.sl {w : World} {N : Nat} {v : Value} {l : List UInt8} (h : OwnB w N v l) : Sl w v l := Own.sl h
theorem OwnB.keep {S : Nat → Prop} {w w' : World} {N : Nat} {v : Value} {l : List UInt8} (hm : MutS S w w') (h : OwnB w N v l) (hn : ∀ k, v.ownBlock = some k → ¬ S k) : OwnB w' N v l := hm.own h hn
theorem OwnB.ne {w : World} {N : Nat} {v : Value} {l : List UInt8} {H : Nat} {s : HS} (h : OwnB w N v l) (hr : HR w H s) : ∀ k, v.ownBlock = some k → k ≠ H := own_ne h hr (by decide)
set_option maxRecDepth 100000 in
set_option maxHeartbeats 1000000 in
theorem draw_any (H : Nat) (s : HS) (n : Nat) (hn : n ≤ 1000) (T : List UInt8) (hT : T.length ≤ 1000000) (hat : s.at_ ≤ 1000000) (hro : s.role ≤ 1) (N : Nat) (w : World) (hr : HR w H s) (ht : OwnB w N s.tape T) :
  Calls Tryz.prog 37 #[.pointer (some ⟨H, 0, none⟩), .int .i64 (n : Nat)] w fun e w' => ∃ l, e = .returned (.slice (some ⟨w.heap.size, 0, none⟩) n n) ∧ l.length = n ∧ RT w' w.heap.size 5 (bvs l) ∧ HR w' H { s with at_ := s.at_ + n } ∧ MutS (fun k => k = H) w w' := by
 have hmk := mk_bytesV n (by omega)
 have HRr := Lib.hid hr
 have HTt := Lib.hid ht
 have HN := Lib.hid (And.intro hn (And.intro hT (And.intro hat hro)))
 have hlt := hr.lt
 obtain ⟨at_, tcap, htape, -, -, -⟩ := id ht.sl
 clear hr ht hn hT hat hro
 go_enter Tryz.func37, Tryz.ntmps37
 go_wp2_with fail
 go_loopw [6, 7, 12] (fun _ _ v wr => ∃ (k : Nat) (l : List UInt8), k ≤ n ∧ l.length = n ∧ v = .int .i64 (k : Nat) ∧ RT wr w.heap.size 5 (bvs l) ∧ HR wr H { s with at_ := s.at_ + k } ∧ MutS (fun k => k = H) w wr) (fun _ _ v _ => n - (intOf v).toNat)
 case atStart =>
  refine ⟨0, List.replicate n 0, by omega, by simp, rfl, RT.new _ _ _ _ rfl, HRr.out.below ((Below.refl _ _).alloc (Nat.le_refl _) _), (MutS.refl _ _).alloc _⟩
 case round =>
  obtain ⟨k, l, hk, hl, rfl, hg, hh, hm⟩ := hrel
  have hN := HN.out
  by_cases hkn : k < n
  case neg =>
   have p1 : decide (k < n) = false := decide_eq_false (by omega)
   obtain rfl : k = n := by omega
   have HG := Lib.hid (And.intro hg (And.intro hh hm))
   clear hg hh hm
   go_wp2_with fail
   go_ret
   exact ⟨l, rfl, hl, HG.out.1, HG.out.2.1, HG.out.2.2⟩
  have p1 : decide (k < n) = true := decide_eq_true (by omega)
  obtain ⟨a, ha⟩ : ∃ a : Nat, s.at_ + k = a := ⟨_, rfl⟩
  obtain ⟨b, hb⟩ : ∃ b : Nat, 2 * a = b := ⟨_, rfl⟩
  obtain ⟨A, hA⟩ : ∃ A : Nat, b + s.role = A := ⟨_, rfl⟩
  obtain ⟨a1, ha1⟩ : ∃ a1 : Nat, a + 1 = a1 := ⟨_, rfl⟩
  obtain ⟨k1, hk1⟩ : ∃ k1 : Nat, k + 1 = k1 := ⟨_, rfl⟩
  rw [ha] at hh
  have c7 : wr.cell? ⟨H, 7, none⟩ = some (.int .i64 (a : Nat)) := hh.c 7
  have c0 : wr.cell? ⟨H, 0, none⟩ = some (.int .i64 (s.role : Nat)) := hh.c 0
  have c4 : wr.cell? ⟨H, 4, none⟩ = some (.slice at_ T.length tcap) := (hh.c 4).trans (congrArg some htape)
  have f7 := hh.f 7
  have cg : wr.cell? ⟨w.heap.size, k, none⟩ = some (.int .u8 (n8 (nth l k) : Nat)) := by rw [row?_cell hg.row k, bvs_getElem?, if_pos (by omega)]
  have fg : wr.frozen? ⟨w.heap.size, k, none⟩ = false := row?_frozen hg.row k
  have q1 : 2 * (a : Int) = (b : Nat) ∧ (b : Int) + (s.role : Nat) = (A : Nat) ∧ (a : Int) + 1 = (a1 : Nat) ∧ (k : Int) + 1 = (k1 : Nat) := by omega
  have q2 : b ≤ 1000000000000 ∧ A ≤ 1000000000000 ∧ a1 ≤ 1000000000000 ∧ k1 ≤ 1000000000000 := by omega
  have HK := Lib.hid (show k1 ≤ n ∧ k + 1 = k1 ∧ s.at_ + k1 = a1 by omega)
  have hgH : w.heap.size ≠ H := by omega
  have hAT0 : A < T.length ∨ T.length ≤ A := by omega
  have hx : A < T.length → decide (A < T.length) = true := fun h => decide_eq_true h
  have hy : T.length ≤ A → decide (A < T.length) = false := fun h => decide_eq_false (by omega)
  have e1 := wrap_nat q1.1 q2.1
  have e2 := wrap_nat q1.2.1 q2.2.1
  have e3 := wrap_nat q1.2.2.1 q2.2.2.1
  have e4 := wrap_nat q1.2.2.2 q2.2.2.2
  have htr : Sl wr s.tape T := (HTt.out.keep hm (fun q hq => HTt.out.ne HRr.out q hq)).sl
  have HG := Lib.hid hg
  have HH := Lib.hid hh
  have HM := Lib.hid hm
  have HTR := Lib.hid htr
  clear hg hh hm htr hA hN q1 q2 ha hb ha1 hk1 hk
  rcases hAT0 with hAT | hAT
  ·have p2 := hx hAT
   obtain ⟨ao', cap', e', -, -, hp⟩ := HTR.out
   rw [htape] at e'
   cases e'
   obtain ⟨tb, off, rfl, hcell⟩ := hp (by omega)
   have hc := hcell A hAT
   obtain ⟨x, hx1⟩ : ∃ x, nth T A = x := ⟨_, rfl⟩
   rw [hx1] at hc
   clear hx hy hcell hp htape HTR
   have h7 : ((wr.setCell ⟨w.heap.size, k, none⟩ (.int .u8 (n8 x : Nat))).cell? ⟨H, 7, none⟩) = some (.int .i64 (a : Nat)) := ((HH.out.keep (((MutS.refl (fun j => j = w.heap.size) wr).setCell w.heap.size k none (.int .u8 (n8 x : Nat)) (.inl rfl))) (fun e => hgH e.symm)).c 7)
   have g7 : ((wr.setCell ⟨w.heap.size, k, none⟩ (.int .u8 (n8 x : Nat))).frozen? ⟨H, 7, none⟩) = false := ((HH.out.keep (((MutS.refl (fun j => j = w.heap.size) wr).setCell w.heap.size k none (.int .u8 (n8 x : Nat)) (.inl rfl))) (fun e => hgH e.symm)).f 7)
   go_wp2_with fail
   go_region
   all_goals (go_wp2_with fail)
   case roundEnd =>
    have m0 := (MutS.refl (fun j => j = w.heap.size) wr).setCell w.heap.size k none (.int .u8 (n8 x : Nat)) (.inl rfl)
    have m1 := ((MutS.refl (fun j => j = H) (wr.setCell ⟨w.heap.size, k, none⟩ (.int .u8 (n8 x : Nat)))).setCell H 7 none (.int .i64 (a1 : Nat)) (.inl rfl)).drew
    refine ⟨⟨k1, l.set k x, HK.out.1, by simpa using hl, congrArg (Value.int .i64) e4, ?_, ?_, ?_⟩, meas_up (by have := HK.out; clear e1 e2 e3 e4; omega) (by rw [e4]; have := HK.out; clear e1 e2 e3 e4; omega)⟩
    ·have h1 := HG.out.set k (.int .u8 (n8 x : Nat))
     have h2 : (bvs l).setIfInBounds k (.int .u8 (n8 x : Nat)) = bvs (l.set k x) := bvs_setn l k x
     rw [h2] at h1
     exact RT.keep m1 h1 hgH
    ·have := (((HH.out.keep m0 (fun e => hgH e.symm)).set 7 (.int .i64 (a1 : Nat)))).drew
     rw [HK.out.2.2]
     exact this
    ·refine (HM.out.trans' m0 (fun i hi => .inr (by subst hi; exact Nat.le_refl _))).trans m1
  ·have p2 := hy hAT
   clear hx hy
   go_wp2_with fail
   go_region
   all_goals (go_wp2_with fail)
   case roundEnd =>
    have m1 := ((MutS.refl (fun j => j = H) wr).setCell H 7 none (.int .i64 (a1 : Nat)) (.inl rfl)).drew
    refine ⟨⟨k1, l, HK.out.1, hl, congrArg (Value.int .i64) e4, RT.keep m1 HG.out hgH, ?_, HM.out.trans m1⟩, meas_up (by have := HK.out; clear e1 e2 e3 e4; omega) (by rw [e4]; have := HK.out; clear e1 e2 e3 e4; omega)⟩
    have := (HH.out.set 7 (.int .i64 (a1 : Nat))).drew
    rw [HK.out.2.2]
    exact this
end Go.Proofs.YthjbmggpleliaaaGreatDoor

end
