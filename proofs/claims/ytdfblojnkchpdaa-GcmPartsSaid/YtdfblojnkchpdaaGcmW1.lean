/- The walks of package gcm: numbers of blocks, blocks of numbers, products. -/
import Derived.Test.YtdfblojnkchpdaaAesW3
import Derived.Test.YtdfblojnkchpdaaGcmM
import Derived.RegionTactic
import Derived.BigRegion
namespace Go.Proofs.Ytdfblojnkchpdaa
open Go.RowKit Go.Rw Aes Gcm

def wv (x : Wd) : Array Value := #[.int .u64 (n64 x.1 : Nat), .int .u64 (n64 x.2 : Nat)]
@[go_sem] theorem wv_size (x : Wd) : (wv x).size = 2 := by simp [wv]
@[go_sem] theorem wv_all (x : Wd) : allOne (wv x) = true := by simp [allOne, wv, Value.oneCell']
theorem AgW : Agg Try.prog 52 2 := ⟨⟨_, Try.underlying52, rfl⟩, by kernel_rfl⟩
theorem ldW (x : Value) : Instr.loadAt 52 x = loadAgg 52 x := rfl
theorem stW (x y : Value) : Instr.storeAt 52 x y = storeAgg 52 x y := rfl
theorem alW : Instr.alloc 52 true (.tuple #[]) = allocAgg 52 := rfl
theorem rldW (w : World) (b : Nat) (h : (row? w b).map (·.size) = some 2) : (loadAgg 52 (.pointer (some ⟨b, 0, none⟩))).run Try.prog w = .ok (.agg ((row? w b).getD #[])) w := load_rule AgW w b h
theorem rstW (w : World) (b : Nat) (c' : Array Value) (h : (row? w b).map (·.size) = some 2) (hn : c'.size = 2) (h1 : allOne c' = true) : (storeAgg 52 (.pointer (some ⟨b, 0, none⟩)) (.agg c')).run Try.prog w = .ok () (w.setRow b c') := store_rule AgW w b c' h hn h1
theorem ralW (w : World) : (allocAgg 52).run Try.prog w = .ok (.pointer (some ⟨w.heap.size, 0, none⟩)) (w.alloc (.cells (wv (0, 0)) 52)) := alloc_rule (n := 2) (by kernel_rfl) w
theorem wv_0 (x : Wd) : (wv x)[0]? = some (.int .u64 (n64 x.1 : Nat)) := rfl
theorem wv_1 (x : Wd) : (wv x)[1]? = some (.int .u64 (n64 x.2 : Nat)) := rfl
theorem wv_set0 (x : Wd) (a : UInt64) : (wv x).setIfInBounds 0 (.int .u64 (n64 a : Nat)) = wv (a, x.2) := rfl
theorem wv_set1 (x : Wd) (a : UInt64) : (wv x).setIfInBounds 1 (.int .u64 (n64 a : Nat)) = wv (x.1, a) := rfl
theorem retW {fn : Func} {p : Tmp} {R : Ending → World → Prop} {a : Act} {w : World} (b : Nat) (c : Array Value) (hr : fn.results = #[.cell p 52]) (hp : a.tmps.getD p undef = .pointer (some ⟨b, 0, none⟩)) (hd : a.defers = [])
    (h : row? w b = some c) (hn : c.size = 2) (hR : R (.returned (.agg c)) w) : bodyPost Try.prog fn R .ret a w :=
  bodyPost_ret (results_row AgW hr _ _ b c hp h hn) hd hR
attribute [local go_sem ↓] ld16 st16 al16 ldW stW alW shift_shl8 shift_shr8 shift_shl64 shift_shr64 bvs_getElem? wv_0 wv_1
attribute [local go_sem] rld16 rst16 ral16 rldW rstW ralW setRow_alloc_at setRow_alloc_past setRow_drew bvs_setn wv_set0 wv_set1

set_option maxHeartbeats 400000 in
theorem of_any (b : List UInt8) (hb : b.length = 16) (w : World) :
    Calls Try.prog 27 #[.agg (bvs b)] w fun e w' => e = .returned (.agg (wv (wof b))) ∧ Below w.heap.size w w' := by
  go_enter Try.func27, Try.ntmps27
  go_wp2_with fail
  go_loopw [4] (fun v wr => ∃ k : Nat, k ≤ 8 ∧ v = .int .i64 k ∧ row? wr w.heap.size = some (bvs b) ∧ row? wr (w.heap.size + 1) = some (wv (ofN b k)) ∧ Below w.heap.size w wr) (fun v _ => 8 - (intOf v).toNat)
  case atStart => exact ⟨0, by omega, rfl, by simp [go_sem], by simp [go_sem]; rfl, bel2 _ _ _⟩
  case round =>
    obtain ⟨k, hk, rfl, h0, h1, hbl⟩ := hrel
    by_cases hlt : k < 8
    · have H0 := Lib.hid h0
      have H1 := Lib.hid h1
      have c0 := row?_cell h0
      have c1 := row?_cell h1
      have f1 := row?_frozen h1
      clear h0 h1
      go_wp2_with fail
      go_region
      all_goals (go_wp2_with fail)
      go_roundw
      case rel =>
        refine ⟨k + 1, by omega, by go_num, ?_, ?_, ((hbl.setCell (by simp) _).setCell (by simp) _).drew⟩
        · rw [row?_drew, row?_setCell_ne _ _ _ _ (by simp), row?_setCell_ne _ _ _ _ (by simp)]; exact H0.out
        · rw [row?_drew, row?_setCell_eq (row?_setCell_eq H1.out _), wv_set0, wv_set1]; rfl
      case measure => simp [intOf]; omega
    · go_wp2_with fail
      obtain rfl : k = 8 := by omega
      exact retW (w.heap.size + 1) (wv (wof b)) rfl rfl rfl (row?_setRow_eq h1) (wv_size _) ⟨rfl, below_setRow hbl (by omega) _⟩

set_option maxHeartbeats 400000 in
theorem blk_any (x : Wd) (w : World) :
    Calls Try.prog 29 #[.agg (wv x)] w fun e w' => e = .returned (.agg (bvs (blk x))) ∧ Below w.heap.size w w' := by
  go_enter Try.func29, Try.ntmps29
  go_wp2_with fail
  go_loopw [4] (fun v wr => ∃ k : Nat, k ≤ 8 ∧ v = .int .i64 k ∧ row? wr w.heap.size = some (wv x) ∧ row? wr (w.heap.size + 1) = some (bvs (blkUpto x k)) ∧ Below w.heap.size w wr) (fun v _ => 8 - (intOf v).toNat)
  case atStart => exact ⟨0, by omega, rfl, by simp [go_sem], by rw [blkUpto_zero]; simp [go_sem], bel2 _ _ _⟩
  case round =>
    obtain ⟨k, hk, rfl, h0, h1, hbl⟩ := hrel
    by_cases hlt : k < 8
    · have H0 := Lib.hid h0
      have H1 := Lib.hid h1
      have c0 := row?_cell h0
      have c1 := row?_cell h1
      have f1 := row?_frozen h1
      have s0 : (8 : Int) * (k : Int) ≤ 56 := by omega
      have s1 : ((56 : Int) - 8 * (k : Int)).toNat = 56 - 8 * k := by omega
      clear h0 h1
      go_wp2_with fail
      go_region
      all_goals (go_wp2_with fail)
      go_roundw
      case rel =>
        refine ⟨k + 1, by omega, by go_num, ?_, ?_, ((hbl.setCell (by simp) _).setCell (by simp) _).drew⟩
        · rw [row?_drew, row?_setCell_ne _ _ _ _ (by simp), row?_setCell_ne _ _ _ _ (by simp)]; exact H0.out
        · rw [row?_drew, row?_setCell_eq (row?_setCell_eq H1.out _), bvs_setn, bvs_setn, ← blkUpto_set x k hlt]
      case measure => simp [intOf]; omega
    · go_wp2_with fail
      obtain rfl : k = 8 := by omega
      rw [blkUpto_full] at h1
      exact ret16 (w.heap.size + 1) (bvs (blk x)) rfl rfl rfl (row?_setRow_eq h1) (by rw [bvs_size]; exact blk_length _) ⟨rfl, below_setRow hbl (by omega) _⟩
theorem bel3 (w : World) (a b c : Obj) : Below w.heap.size w (((w.alloc a).alloc b).alloc c) := (bel2 w a b).alloc (by simp; omega) _
end Go.Proofs.Ytdfblojnkchpdaa
