/- Appending as many zeros as is told, append(b, make([]byte, n)...), to an owned slice of bytes. Over any program. -/
import Derived.Test.YthjbmggpleliaaaGreatDoorMhb4
namespace Go.Rw
open Go Go.RowKit
def zs (m : Nat) : List Value := List.replicate m (.int .u8 0)
theorem zs_length (m : Nat) : (zs m).length = m := by simp [zs]
theorem zs_one (m : Nat) : ∀ u ∈ zs m, u.oneCell' = true := by
 intro u hu
 obtain rfl := List.eq_of_mem_replicate hu
 rfl
theorem zs_bv (m : Nat) : zs m = (List.replicate m (0 : UInt8)).map bv := by simp [zs, bv]
theorem zs_cells (m : Nat) : Builtin.zeroCells (Value.int IntKind.u8 0).cells m = (zs m).toArray := by
 apply Array.ext'
 simp [Builtin.zeroCells, Value.cells, zs, Nat.mod_one]
 rw [List.map_const', List.length_range]
section
variable {P : Program} (w : World)
theorem run_append_room_zs (t u ty e : TypeId) (i : TypeInfo) (ht : P.underlying t = some (.slice e)) (hu : P.underlying u = some (.int .i64)) (hi : P.info? e = some i) (hz : i.zero = some (.int .u8 0)) (hs1 : i.size = 1) (hby : i.bytes = 1)
  (g sLen sCap m : Nat) (cur : Array Value) (hg : w.heap[g]? = some (.cells cur e (0, 0))) (hm : m ≤ 2000000) (hm0 : 0 < m)
  (hroom : sLen + m ≤ sCap) (hfit : sLen + m ≤ cur.size) :
  (Builtin.append_ #[t, u] ty #[.slice (some ⟨g, 0, none⟩) sLen sCap, .int .i64 (m : Nat)]).run P w =
   .ok (.slice (some ⟨g, 0, none⟩) (sLen + m) sCap) (w.setRow g (cur.toList.take sLen ++ zs m ++ cur.toList.drop (sLen + m)).toArray) := by
 have hst := run_storeCells_at P g sLen e (zs m) 0 cur w hg (by simpa [zs_length] using hfit) (zs_one m)
 simp only [Nat.add_zero, zs_length] at hst
 have hw : IntKind.i64.wrap ((m : Nat) : Int) = (m : Nat) := by simp only [IntKind.wrap_i64]; omega
 have h0 : ¬ ((m : Nat) : Int) < 0 := by omega
 have h48 : ¬ (281474976710656 : Int) < (m : Nat) := by omega
 have hmn : m ≠ 0 := by omega
 simp [Builtin.append_, run_underlying ht, run_underlying hu, sizeOf, typeInfo, zeroValue, hi, hz, hs1, hby, asInt, asIntOf, hw, h0, h48, hroom, hmn, zs_cells, Addr.add_lit, hst]
theorem run_append_grow_zs (t u ty e : TypeId) (i : TypeInfo) (ht : P.underlying t = some (.slice e)) (hu : P.underlying u = some (.int .i64)) (hi : P.info? e = some i) (hz : i.zero = some (.int .u8 0)) (hs1 : i.size = 1) (hby : i.bytes = 1)
  (b : Option Addr) (sLen sCap m : Nat) (olds : List Value) (hold : (Builtin.firstCells i.size sLen (.slice b sLen sCap)).run P w.drew = .ok olds.toArray w.drew) (hm : m ≤ 2000000) (hm0 : 0 < m)
  (hg : sCap < sLen + m) (h63 : ((sLen + m : Nat) : Int) ≤ 9223372036854775807) (hfit : Builtin.nextslicecap (sLen + m) sCap * i.bytes ≤ 281474976710656) :
  (Builtin.append_ #[t, u] ty #[.slice b sLen sCap, .int .i64 (m : Nat)]).run P w =
   .ok (.slice (some ⟨w.heap.size, 0, none⟩) (sLen + m) (grownCap w (sLen + m) sCap e))
    (w.drew.alloc (.cells (olds.toArray ++ (zs m).toArray ++ Builtin.zeroCells (Value.int .u8 0).cells (grownCap w (sLen + m) sCap e - (sLen + m))) e)) := by
 have hn : ¬ (sLen + m ≤ sCap) := by omega
 have h63' : ¬ (9223372036854775807 < ((sLen : Int) + (m : Int))) := by omega
 rw [hby, Nat.mul_one] at hfit
 have h48' : ¬ (281474976710656 < Builtin.nextslicecap (sLen + m) sCap) := by omega
 have hw : IntKind.i64.wrap ((m : Nat) : Int) = (m : Nat) := by simp only [IntKind.wrap_i64]; omega
 have h0 : ¬ ((m : Nat) : Int) < 0 := by omega
 have h48 : ¬ (281474976710656 : Int) < (m : Nat) := by omega
 have hmn : m ≠ 0 := by omega
 rw [hs1] at hold
 simp [Builtin.append_, run_underlying ht, run_underlying hu, sizeOf, typeInfo, zeroValue, hi, hz, hs1, hby, asInt, asIntOf, hw, h0, h48, hn, h63', h48', hmn, Question.forced, hold, zs_cells, newRow, grownCap]
theorem run_append_none_zs (t u ty e : TypeId) (i : TypeInfo) (ht : P.underlying t = some (.slice e)) (hu : P.underlying u = some (.int .i64)) (hi : P.info? e = some i) (hs1 : i.size = 1) (hby : i.bytes = 1)
  (v : Value) (n base : Nat) (xs : List Value) (hown : w.ownsRow base e 1 v n xs) :
  ∃ w', (Builtin.append_ #[t, u] ty #[v, .int .i64 0]).run P w = .ok v w' ∧ w'.ownsRow base e 1 v n xs ∧ w.grownBy w' v.ownBlock := by
 have hw : IntKind.i64.wrap (0 : Int) = 0 := by decide
 rcases hown.2 with ⟨rfl, rfl⟩ | ⟨g, cap, cur, rfl, hbg, hg, hnc, hcm, hcs, htake⟩
 ·refine ⟨w, ?_, hown, ⟨rfl, rfl, rfl, Nat.le_refl _, fun _ _ _ => rfl⟩⟩
  simp [Builtin.append_, run_underlying ht, run_underlying hu, sizeOf, typeInfo, hi, hby, asInt, asIntOf, hw]
 ·have hcs' : cur.size = cap := by simpa using hcs
  have hst := run_storeCells_at P g n e [] 0 cur w hg (by simp; omega) (by simp)
  simp only [Nat.add_zero, List.length_nil] at hst
  have ht' : cur.toList.take n = xs := by simpa using htake
  refine ⟨w.setRow g (cur.toList.take n ++ [] ++ cur.toList.drop n).toArray, ?_, ⟨hown.1, .inr ⟨g, cap, _, rfl, hbg, setRow_heap w g cur _ e _ hg, hnc, hcm, ?_, ?_⟩⟩, ⟨rfl, rfl, rfl, by simp, fun k _ hk => setRow_other w g k _ (fun e => hk (by simp [Value.ownBlock, e]))⟩⟩
  ·simp [Builtin.append_, run_underlying ht, run_underlying hu, sizeOf, typeInfo, hi, hs1, hby, asInt, asIntOf, hw, hnc, Addr.add_lit] at hst ⊢
   rw [hst]; rfl
  ·simp; omega
  ·simpa using ht'
theorem run_append_own_zs (base : Nat) (t u ty e : TypeId) (i : TypeInfo) (ht : P.underlying t = some (.slice e)) (hu : P.underlying u = some (.int .i64)) (hi : P.info? e = some i) (hz : i.zero = some (.int .u8 0))
  (hsize : i.size = 1) (hby : i.bytes = 1)
  (v : Value) (n m : Nat) (xs : List Value) (hown : w.ownsRow base e 1 v n xs) (hn : n ≤ 2000000) (hm : m ≤ 2000000) (hbase : base ≤ w.heap.size) :
  ∃ v' w', (Builtin.append_ #[t, u] ty #[v, .int .i64 (m : Nat)]).run P w = .ok v' w' ∧ w'.ownsRow base e 1 v' (n + m) (xs ++ zs m) ∧ w.grownBy w' v.ownBlock := by
 have hxl : xs.length = n := by simpa using hown.1
 have hlen : (xs ++ zs m).length = (n + m) * 1 := by rw [List.length_append, hxl, zs_length, Nat.mul_one]
 have h63 : n + m ≤ maxLen := by unfold maxLen; omega
 by_cases hm0 : m = 0
 ·subst hm0
  obtain ⟨w', h1, h2, h3⟩ := run_append_none_zs (P := P) w t u ty e i ht hu hi hsize hby v n base xs hown
  exact ⟨v, w', h1, by simpa [zs] using h2, h3⟩
 have grown : ∀ (old : Nat), old < n + m → ∀ (row : Option Nat),
   (w.drew.alloc (.cells (xs.toArray ++ (zs m).toArray ++ Builtin.zeroCells (Value.int .u8 0).cells (grownCap w (n + m) old e - (n + m))) e)).ownsRow base e 1
    (.slice (some ⟨w.heap.size, 0, none⟩) (n + m) (grownCap w (n + m) old e)) (n + m) (xs ++ zs m) ∧
   w.grownBy (w.drew.alloc (.cells (xs.toArray ++ (zs m).toArray ++ Builtin.zeroCells (Value.int .u8 0).cells (grownCap w (n + m) old e - (n + m))) e)) row := by
  intro old ho row
  have hge := grownCap_ge w (n + m) old e
  have hcm : grownCap w (n + m) old e ≤ maxLen := grownCap_le_maxLen w (n + m) old e h63
  refine ⟨⟨hlen, .inr ⟨w.heap.size, _, _, rfl, hbase, heap_alloc_new w.drew _, hge, hcm, ?_, ?_⟩⟩, ⟨rfl, rfl, rfl, by simp, fun k hk _ => Go.heap_alloc_old w.drew _ hk⟩⟩
  ·have hz1 : (Value.int IntKind.u8 0).cells.size = 1 := rfl
   simp only [Array.size_append, List.size_toArray, size_zeroCells, hz1, hxl, zs_length]
   omega
  ·simp only [Array.toList_append, List.append_assoc]
   rw [← List.append_assoc, ← hlen]
   exact List.take_left
 rcases hown.2 with ⟨rfl, rfl⟩ | ⟨g, cap, cur, rfl, hbg, hg, hnc, hcm, hcs, htake⟩
 ·have hx : xs = [] := List.eq_nil_of_length_eq_zero hxl
  subst hx
  have hr := run_append_grow_zs (P := P) w t u ty e i ht hu hi hz hsize hby none 0 0 m [] (by simp [run_firstCells_none]) hm (by omega) (by omega) (by omega) (by rw [hby, Nat.zero_add, nextslicecap_zero (by omega)]; omega)
  have hgr := grown 0 (by omega) (Value.ownBlock (.slice none 0 0))
  exact ⟨_, _, hr, hgr.1, hgr.2⟩
 ·by_cases hroom : n + m ≤ cap
  ·have hcs' : cur.size = cap := by simpa using hcs
   have hr := run_append_room_zs (P := P) w t u ty e i ht hu hi hz hsize hby g n cap m cur hg hm (by omega) hroom (by omega)
   refine ⟨_, _, hr, ⟨hlen, .inr ⟨g, cap, _, rfl, hbg, setRow_heap w g cur _ e _ hg, hroom, hcm, ?_, ?_⟩⟩, ⟨rfl, rfl, rfl, by simp, fun k _ hk => setRow_other w g k _ (fun e => hk (by simp [Value.ownBlock, e]))⟩⟩
   ·simp only [List.size_toArray, List.length_append, List.length_take, List.length_drop, Array.length_toList, zs_length]
    omega
   ·have ht' : cur.toList.take n = xs := by simpa using htake
    rw [ht', ← hlen]
    exact List.take_left
  ·have holds : ∀ j u, xs[j]? = some u → w.cell? ((⟨g, 0, none⟩ : Addr).add j) = some u := hown.cells (g := g) rfl
   have hfo := run_firstCells_some (P := P) w.drew i.size n ⟨g, 0, none⟩ n cap xs (by rw [hsize]; simpa using hxl) (by simpa using holds)
   have hr := run_append_grow_zs (P := P) w t u ty e i ht hu hi hz hsize hby (some ⟨g, 0, none⟩) n cap m xs hfo hm (by omega) (by omega) (by omega) (by rw [hby]; exact growslice_fits (by omega) (by omega))
   have hgr := grown cap (by omega) (Value.ownBlock (.slice (some ⟨g, 0, none⟩) n cap))
   exact ⟨_, _, hr, hgr.1, hgr.2⟩
end
theorem app_zeros {P : Program} {w : World} {ops : Array Oper} {rest : List Oper} {o : Oper} {a : Act} {Q : Exit → Act → World → Prop} (hgd : o.guard = none) (s x : Operand) (t u : TypeId)
  (ho : o.op = .call { callee := .builtin .append, args := #[s, x], argTypes := #[t, u] })
  (base : Nat) (e : TypeId) (i : TypeInfo) (ht : P.underlying t = some (.slice e)) (hu : P.underlying u = some (.int .i64)) (hi : P.info? e = some i) (hz : i.zero = some (.int .u8 0))
  (hsize : i.size = 1) (hby : i.bytes = 1)
  (v : Value) (l : List UInt8) (hs : a.eval s = v) (hown : w.ownsRow base e 1 v l.length (l.map bv))
  (m : Nat) (hx : a.eval x = .int .i64 (m : Nat)) (hl : l.length ≤ 2000000) (hm : m ≤ 2000000) (hbase : base ≤ w.heap.size)
  (h : ∀ v' w', w'.ownsRow base e 1 v' (l ++ List.replicate m 0).length ((l ++ List.replicate m 0).map bv) → w.grownBy w' v.ownBlock → wpList P ops Q rest (a.put o.dst v') w') : wpList P ops Q (o :: rest) a w := by
 refine wpList_plain hgd fun K hK => ?_
 obtain ⟨v', w', hr, h2, h3⟩ := run_append_own_zs (P := P) w base t u o.type e i ht hu hi hz hsize hby v l.length m (l.map bv) hown hl hm hbase
 unfold Oper.wp execOp
 simp only [ho, resolve, invoke, builtin, Sem.run_bind, Sem.run_pure, Result.andThen_ok, List.map_toArray, List.map_cons, List.map_nil, hs, hx, hr]
 refine hK _ _ (h v' w' ?_ h3)
 rw [List.length_append, List.length_replicate, List.map_append, ← zs_bv]
 exact h2
end Go.Rw
