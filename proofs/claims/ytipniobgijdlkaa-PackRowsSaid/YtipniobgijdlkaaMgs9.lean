/- TonW4; PckA; FrmR; FrmA. -/
import Derived.Test.YtipniobgijdlkaaMgs8
import Derived.Test.YtipniobgijdlkaaMgs3
import Derived.Test.YtipniobgijdlkaaMgsLibZ
section
/- The walks of SameInts, of package tone's Row. -/
namespace Tone
open Go Go.Rw
end Tone
namespace Go.Proofs.Ytipniobgijdlkaa
open Go.RowKit Go.Rw Tone
theorem extI {a b : List Int} (hl : a.length = b.length) (h : ∀ i, i < a.length → ni a i = ni b i) : a = b := by
  apply List.ext_getElem hl
  intro i h1 h2
  have := h i h1
  simpa [ni, h1, h2] using this
set_option maxHeartbeats 1000000 in
theorem sameI_any (a b : List Int) (ha : a.length ≤ 1000000) (va vb : Value) (w : World) (hsa : Si w va a) (hsb : Si w vb b) :
    Calls Try.prog 39 #[va, vb] w fun e w' => e = .returned (.bool (decide (a = b))) ∧ Below w.heap.size w w' := by
  obtain ⟨ao, cap, rfl, hc, hnn, hp⟩ := hsa
  obtain ⟨ao2, cap2, rfl, hc2, hnn2, hp2⟩ := hsb
  by_cases hl : a.length = b.length
  · go_enter Try.func39, Try.ntmps39
    rw [← hl]
    rw [← hl] at hp2
    have hab : ∀ k, k < a.length → ni a k ≠ ni b k → a ≠ b := fun k _ h e => h (by rw [e])
    go_wp2_with fail
    go_loopw [5] (fun v wr => ∃ k : Nat, k ≤ a.length ∧ v = .int .i64 k ∧ (∀ j, j < k → ni a j = ni b j) ∧ Below w.heap.size w wr) (fun v _ => a.length - (intOf v).toNat)
    case atStart => exact ⟨0, by omega, rfl, fun j hj => by omega, Below.refl _ _⟩
    case round =>
      obtain ⟨k, hk, rfl, he, hb⟩ := hrel
      have HE := Lib.hid he
      clear he
      by_cases hlt : k < a.length
      · obtain ⟨b1, off1, rfl, hcell1⟩ := hp (by omega)
        obtain ⟨b2, off2, rfl, hcell2⟩ := hp2 (by omega)
        have c1 := below_cell hb (hcell1 k hlt) (cell_lt (hcell1 k hlt))
        have c2 := below_cell hb (hcell2 k hlt) (cell_lt (hcell2 k hlt))
        have HC1 := Lib.hid hcell1
        have HC2 := Lib.hid hcell2
        have HAB := Lib.hid hab
        have HL := Lib.hid hl
        clear hcell1 hcell2 hab hl
        cases hne : (ni a k != ni b k)
        · go_wp2_with fail
          refine Rg.wp_region_plan (Rg.row [(0, 3), (1, 3), (2, 3), (3, 0), (4, 3), (5, 3), (6, 3), (7, 0), (8, 3)] []) [] (by kernel_rfl) (by kernel_rfl) ?_
          simp only [Rg.row, Rg.PT.map, List.map_nil, List.getD_cons_zero, List.getD_cons_succ]
          go_wp2_with (first
            | ((with_reducible refine Rg.plan_pure ?_ ?_ ?_); kernel_rfl; kernel_rfl; intro _ _)
            | ((with_reducible refine Rg.plan_take ?_ ?_ ?_); kernel_rfl; kernel_rfl; intro _ _)
            | ((with_reducible refine Rg.plan_keep ?_ ?_); kernel_rfl; intro K hK)
            | (refine hK _ _ (Rg.Keep.refl _) ?_; clear hK)
            | (refine hK _ _ (Rg.Keep.of_below (by assumption)) ?_; clear hK)
            | ((with_reducible refine Rg.plan_skip ?_ ?_); kernel_rfl)
            | (with_reducible refine Rg.plan_done ?_)
            | (with_reducible refine Rg.calm_normal ?_))
          go_roundw
          case rel =>
            refine ⟨k + 1, by omega, by go_num, fun j hj => ?_, hb.drew⟩
            rcases Nat.lt_or_ge j k with h | h
            · exact HE.out j h
            · rw [show j = k by omega]; simpa using hne
          case measure => simp [intOf]; omega
        · have hd : decide (a = b) = false := decide_eq_false (HAB.out k hlt (by simpa using hne))
          have HD := Lib.hid hd
          clear hd
          go_wp2_with fail
          refine Rg.wp_region_plan (Rg.row [(0, 3), (1, 3), (2, 3), (3, 0), (4, 3), (5, 3), (6, 3), (7, 0), (8, 3)] []) [] (by kernel_rfl) (by kernel_rfl) ?_
          simp only [Rg.row, Rg.PT.map, List.map_nil, List.getD_cons_zero, List.getD_cons_succ]
          go_wp2_with (first
            | ((with_reducible refine Rg.plan_pure ?_ ?_ ?_); kernel_rfl; kernel_rfl; intro _ _)
            | ((with_reducible refine Rg.plan_take ?_ ?_ ?_); kernel_rfl; kernel_rfl; intro _ _)
            | ((with_reducible refine Rg.plan_keep ?_ ?_); kernel_rfl; intro K hK)
            | (refine hK _ _ (Rg.Keep.refl _) ?_; clear hK)
            | (refine hK _ _ (Rg.Keep.of_below (by assumption)) ?_; clear hK)
            | ((with_reducible refine Rg.plan_skip ?_ ?_); kernel_rfl)
            | (with_reducible refine Rg.plan_done ?_)
            | (with_reducible refine Rg.calm_normal ?_))
          go_ret
          exact ⟨by rw [HD.out]; rfl, hb.drew⟩
      · have hd : decide (a = b) = true := decide_eq_true (extI hl fun i hi => HE.out i (by omega))
        have HD := Lib.hid hd
        clear hd
        go_wp2_with fail
        go_ret
        exact ⟨by rw [HD.out]; rfl, hb⟩
  · have hd : decide (a = b) = false := decide_eq_false (fun e => hl (by rw [e]))
    have HD := Lib.hid hd
    have hl2 : ((a.length : Int) == (b.length : Int)) = false := by simpa using fun e : (a.length : Int) = b.length => hl (by omega)
    clear hd
    go_enter Try.func39, Try.ntmps39
    go_wp2_with fail
    go_ret
    exact ⟨by rw [HD.out]; rfl, Below.refl _ _⟩
theorem infoI : (Try.prog.info? 3).map (fun i => (i.zero, i.size, i.bytes)) = some (some (.int .i64 0), 1, 8) := by kernel_rfl
theorem made_ints (n : Nat) : madeCells #[Value.int .i64 0] n = ivs (List.replicate n 0) := by
  apply Array.toList_inj.1
  rw [toList_madeCells_one]; simp [ivs, iv]
theorem mk_ints (n : Nat) (h : n ≤ 1000000) (w : World) : (Instr.makeSlice 34 (.int .i64 (n : Nat)) (.int .i64 (n : Nat))).run Try.prog w = .ok (.slice (some ⟨w.heap.size, 0, none⟩) n n) (w.alloc (.cells (ivs (List.replicate n 0)) 3)) := by
  obtain ⟨i0, hi, hz0, hz1, hz2⟩ := info_parts infoI
  rw [run_make w _ _ i0 _ Try.underlying34 hi hz0 .i64 .i64 (n : Nat) (n : Nat) (by omega) (by omega) (by rw [hz2]; omega) (by omega)]
  rw [hz1, Nat.mul_one]
  simp only [Int.toNat_natCast]
  rw [← made_ints]; rfl
/-- how often each tick stands there, after n ticks -/
def rwN (l : List Int) (fr to : Int) (m : Nat) : Nat → List Int
  | 0 => List.replicate m 0
  | n + 1 => if fr ≤ ni l n ∧ ni l n < to then (rwN l fr to m n).set (ni l n - fr).toNat (ni (rwN l fr to m n) (ni l n - fr).toNat + 1) else rwN l fr to m n
theorem rwN_len (l : List Int) (fr to : Int) (m : Nat) : ∀ n, (rwN l fr to m n).length = m
  | 0 => by simp [rwN]
  | n + 1 => by
    simp only [rwN]
    split
    · rw [List.length_set, rwN_len l fr to m n]
    · exact rwN_len l fr to m n
theorem rwN_le (l : List Int) (fr to : Int) (m : Nat) : ∀ n j, 0 ≤ ni (rwN l fr to m n) j ∧ ni (rwN l fr to m n) j ≤ n
  | 0, j => by
    simp only [rwN, ni, List.getElem?_replicate]
    split <;> simp
  | n + 1, j => by
    have ih := rwN_le l fr to m n
    simp only [rwN]
    split
    · by_cases h : (ni l n - fr).toNat < m
      · rw [ni_set _ _ _ _ (by rw [rwN_len]; exact h)]
        split
        · have := ih (ni l n - fr).toNat; omega
        · have := ih j; omega
      · rw [List.set_eq_of_length_le (by rw [rwN_len]; omega)]
        have := ih j; omega
    · have := ih j; omega
def rowL (l : List Int) (fr to : Int) : List Int := if fr < to ∧ to - fr ≤ 65536 then rwN l fr to (to - fr).toNat l.length else []
def i64B (x : Int) : Prop := -9223372036854775808 ≤ x ∧ x ≤ 9223372036854775807
theorem u64_dist {fr to : Int} (h1 : i64B fr) (h2 : i64B to) (h : fr ≤ to) : ∃ u v : Nat, IntKind.u64.wrap to = (u : Int) ∧ IntKind.u64.wrap fr = (v : Int) ∧ IntKind.u64.wrap ((u : Int) - (v : Int)) = to - fr := by
  have e1 := (u64_nonneg to).1
  have e2 := (u64_nonneg fr).1
  refine ⟨(IntKind.u64.wrap to).toNat, (IntKind.u64.wrap fr).toNat, by omega, by omega, ?_⟩
  unfold i64B at h1 h2
  rw [Int.toNat_of_nonneg e1, Int.toNat_of_nonneg e2]
  simp only [IntKind.wrap_u64]
  omega
end Go.Proofs.Ytipniobgijdlkaa
end
section
/- The walks of package pack that awake comes to: Data, Fill, Choose at its inputs. -/
namespace Go.Proofs.Ytipniobgijdlkaa
open Go.RowKit Go.Rw Frm Hdr
attribute [local go_sem ↓] ldFF stFF alFF
attribute [local go_sem] rldFF rstFF ralFF setRow_alloc_at setRow_alloc_past setRow_drew
theorem bare_size (k : Int) : (bare k).size = 10 := by simp [bare, fvA]
theorem bare_all (k : Int) : allOne (bare k) = true := by simp [bare, fvA, allOne, Value.oneCell']
attribute [local go_sem] bare_size bare_all
set_option maxHeartbeats 1000000 in
theorem data_209 (w : World) :
    Calls Try.prog 14 #[.int .u64 2, .int .u64 0, .int .i64 9] w fun e w' => e = .returned (.int .i64 5) ∧ Below w.heap.size w w' := by
  go_enter Try.func14, Try.ntmps14
  go_wp2_with fail
  refine (vlen_any 2 (by omega) _).mono ?_
  rw [show vlen 2 = 1 from rfl]
  rintro e w1 ⟨rfl, b1⟩
  have B1 := Lib.hid b1
  clear b1
  go_wp2_with fail
  refine (vlen_any 0 (by omega) _).mono ?_
  rw [show vlen 0 = 1 from rfl]
  rintro e w2 ⟨rfl, b2⟩
  have B2 := Lib.hid (B1.out.trans (b2.mono B1.out.size))
  clear b2
  go_wp2_with fail
  go_loopw [8] (fun v wr => (v = .int .i64 6 ∨ v = .int .i64 5) ∧ Below w.heap.size w wr) (fun v _ => (intOf v).toNat)
  case atStart => exact ⟨.inl rfl, B2.out⟩
  case round =>
    obtain ⟨hv, hb⟩ := hrel
    have HB := Lib.hid hb
    clear hb
    rcases hv with rfl | rfl
    · go_wp2_with fail
      refine (vlen_any 6 (by omega) _).mono ?_
      rw [show vlen 6 = 1 from rfl]
      rintro e w3 ⟨rfl, b3⟩
      have B3 := Lib.hid (HB.out.trans (b3.mono HB.out.size))
      clear b3
      go_wp2_with fail
      go_roundw
      case rel => exact ⟨.inr rfl, B3.out⟩
      case measure => simp [intOf]
    · go_wp2_with fail
      refine (vlen_any 5 (by omega) _).mono ?_
      rw [show vlen 5 = 1 from rfl]
      rintro e w3 ⟨rfl, b3⟩
      have B3 := Lib.hid (HB.out.trans (b3.mono HB.out.size))
      clear b3
      go_wp2_with fail
      go_ret
      exact ⟨rfl, B3.out⟩
set_option maxHeartbeats 1000000 in
theorem fill_ping (w : World) (b : Nat) (hr : row? w b = some (bare 1)) :
    Calls Try.prog 20 #[.slice (some ⟨b, 0, none⟩) 1 1, .int .i64 3] w fun e w' => ∃ v, e = .returned (.tuple #[v, .int .i64 0]) ∧ Sl w' v [1, 0, 0] ∧ Below w.heap.size w w' := by
  obtain ⟨i0, hi, hz0, hz1, hz2⟩ := info_parts info8
  have hlt := row?_lt hr
  have ld := rldFF w b (by rw [hr]; rfl)
  rw [hr] at ld
  have ld' : (loadAgg 28 (.pointer (some ⟨b, 0, none⟩))).run Try.prog w = .ok (.agg (bare 1)) w := ld
  clear ld
  go_enter Try.func20, Try.ntmps20
  go_wp2_with fail
  go_loopw [6, 11] (fun o v wr => (v = .int .i64 0 ∧ o = .slice none 0 0 ∧ wr = w) ∨ (v = .int .i64 1 ∧ wr.ownsRow w.heap.size 5 1 o 1 (([1] : List UInt8).map bv) ∧ Below w.heap.size w wr)) (fun _ v _ => 2 - (intOf v).toNat)
  case atStart => exact .inl ⟨rfl, rfl, rfl⟩
  case round =>
    rcases hrel with ⟨rfl, rfl, rfl⟩ | ⟨rfl, ho, hb⟩
    · have c0 := (bare_cells (row?_alloc_at wr (bare 1) 28 wr.heap.size rfl)).1
      have le := rldFF (wr.alloc (.cells (bare 1) 28)) wr.heap.size (by rw [row?_alloc_at _ _ _ _ rfl]; rfl)
      rw [row?_alloc_at _ _ _ _ rfl] at le
      have le' : (loadAgg 28 (.pointer (some ⟨wr.heap.size, 0, none⟩))).run Try.prog (wr.alloc (.cells (bare 1) 28)) = .ok (.agg (bare 1)) (wr.alloc (.cells (bare 1) 28)) := le
      clear le
      go_wp2_with fail
      refine (may_bare 1 (.inl rfl) _).mono ?_
      rintro e w1 ⟨rfl, b1⟩
      have R1 := Lib.hid (show row? w1 wr.heap.size = some (bare 1) by rw [row?_below b1 (by simp)]; exact row?_alloc_at _ _ _ _ rfl)
      have B1 := Lib.hid (((Below.refl wr.heap.size wr).alloc (Nat.le_refl _) (.cells (bare 1) 28)).trans (b1.mono (by simp)))
      have l1 := rldFF w1 wr.heap.size (by rw [R1.out]; rfl)
      rw [R1.out] at l1
      have l1' : (loadAgg 28 (.pointer (some ⟨wr.heap.size, 0, none⟩))).run Try.prog w1 = .ok (.agg (bare 1)) w1 := l1
      clear l1 b1 c0 le' ld'
      go_wp2_with fail
      refine (put_bare 1 (.inl rfl) _).mono ?_
      rintro e w2 ⟨v2, rfl, o2, b2⟩
      have s2 := Lib.hid (Own.sl (l := [UInt8.ofNat 1]) o2)
      have B2 := Lib.hid (B1.out.trans (b2.mono B1.out.size))
      clear o2 b2 l1'
      go_wp2_with (at_builtin; refine app_sl rfl _ _ 25 rfl wr.heap.size 5 i0 Try.underlying25 hi hz0 hz1 hz2 (.slice none 0 0) [] rfl (World.ownsRow_nil _ _ _ _) _ [UInt8.ofNat 1] rfl s2.out ?hl ?hb ?_)
      case hl => simp
      case hb => exact B2.out.size
      intro v3 w3 o3 g3
      have O3 := Lib.hid (show w3.ownsRow wr.heap.size 5 1 v3 1 (([1] : List UInt8).map bv) from o3)
      have B3 := Lib.hid (B2.out.grown g3 B2.out.size (fun k hk => by cases hk))
      clear o3 g3
      go_wp2_with fail
      go_roundw
      case rel => exact .inr ⟨rfl, O3.out, B3.out⟩
      case measure => simp [intOf]
    · obtain ⟨ao, cap, rfl, -, -, -⟩ := Own.sl (l := [(1 : UInt8)]) ho
      have HO := Lib.hid ho
      have HB := Lib.hid hb
      clear ho hb ld'
      go_wp2_with (at_builtin; refine app_zeros rfl _ _ 25 3 rfl w.heap.size 5 i0 Try.underlying25 Try.underlying3 hi hz0 hz1 hz2 _ [1] rfl HO.out 2 rfl ?hl2 ?hm2 ?hb2 ?_)
      case hl2 => simp
      case hm2 => omega
      case hb2 => exact HB.out.size
      intro v3 w3 o3 g3
      have S3 := Lib.hid (Own.sl (l := [1, 0, 0]) o3)
      have B3 := Lib.hid (HB.out.grown g3 HB.out.size (fun k hk => (HO.out.lt k hk).1))
      clear o3 g3
      go_wp2_with fail
      go_ret2
      exact ⟨_, rfl, S3.out, B3.out⟩
theorem infoJ : (Try.prog.info? 3).map (fun i => (i.zero, i.size, i.bytes)) = some (some (.int .i64 0), 1, 8) := by kernel_rfl
theorem bare2_ld {w : World} {b : Nat} (h : row? w b = some (bare 1 ++ bare 30)) : (loadAgg 28 (.pointer (some ⟨b, 0, none⟩))).run Try.prog w = .ok (.agg (bare 1)) w ∧ (loadAgg 28 (.pointer (some ⟨b, 10, none⟩))).run Try.prog w = .ok (.agg (bare 30)) w := by
  constructor
  · rw [part_rule AgFF w b 0 (decide_eq_true (by rw [h]; show _ ≤ (bare 1 ++ bare 30).size; simp [bare_size])) (by rw [h]; rfl), h]
    rfl
  · rw [part_rule AgFF w b 10 (decide_eq_true (by rw [h]; show _ ≤ (bare 1 ++ bare 30).size; simp [bare_size])) (by rw [h]; rfl), h]
    rfl
set_option maxHeartbeats 1000000 in
theorem choose_pd (w : World) (b : Nat) (hr : row? w b = some (bare 1 ++ bare 30)) :
    Calls Try.prog 19 #[.slice (some ⟨b, 0, none⟩) 2 2, .int .i64 1] w fun e w' => ∃ v, e = .returned v ∧ Si w' v [0] ∧ Below w.heap.size w w' := by
  obtain ⟨i0, hi, hz0, hz1, hz2⟩ := info_parts infoJ
  have hlt := row?_lt hr
  have HR := Lib.hid hr
  clear hr
  go_enter Try.func19, Try.ntmps19
  go_wp2_with fail
  go_loopw [1, 5, 11] (fun r o v wr => (v = .int .i64 0 ∧ r = .int .i64 1 ∧ o = .slice none 0 0 ∧ wr = w) ∨ ((v = .int .i64 1 ∨ v = .int .i64 2) ∧ r = .int .i64 0 ∧ wr.ownsRow w.heap.size 3 1 o 1 (([0] : List Int).map iv) ∧ Below w.heap.size w wr)) (fun _ _ v _ => 2 - (intOf v).toNat)
  case atStart => exact .inl ⟨rfl, rfl, rfl, rfl⟩
  case round =>
    rcases hrel with ⟨rfl, rfl, rfl, rfl⟩ | ⟨hv, rfl, ho, hb⟩
    · have ld := (bare2_ld HR.out).1
      have le := rldFF (wr.alloc (.cells (bare 1) 28)) wr.heap.size (by rw [row?_alloc_at _ _ _ _ rfl]; rfl)
      rw [row?_alloc_at _ _ _ _ rfl] at le
      have le' : (loadAgg 28 (.pointer (some ⟨wr.heap.size, 0, none⟩))).run Try.prog (wr.alloc (.cells (bare 1) 28)) = .ok (.agg (bare 1)) (wr.alloc (.cells (bare 1) 28)) := le
      clear le
      go_wp2_with fail
      refine (len_bare 1 (.inl rfl) _).mono ?_
      rintro e w1 ⟨rfl, b1⟩
      have B1 := Lib.hid (((Below.refl wr.heap.size wr).alloc (Nat.le_refl _) (.cells (bare 1) 28)).trans (b1.mono (by simp)))
      clear b1 le' ld
      go_wp2_with (at_builtin; refine app_si rfl _ _ 34 rfl wr.heap.size 3 i0 Try.underlying34 hi hz0 hz1 hz2 (.slice none 0 0) [] rfl (World.ownsRow_nil _ _ _ _) _ [0] rfl ?hu ?hl ?hb ?_)
      case hu =>
        have := Si.row (w := w1.alloc (.cells (ivs [0]) 3)) (g := w1.heap.size) (l := [0]) (row?_alloc_at _ _ _ _ rfl)
        exact this
      case hl => simp
      case hb => have := B1.out.size; simp; omega
      intro v3 w3 o3 g3
      have O3 := Lib.hid (show w3.ownsRow wr.heap.size 3 1 v3 1 (([0] : List Int).map iv) from o3)
      have B3 := Lib.hid ((B1.out.alloc B1.out.size (.cells #[.int .i64 0] 3)).grown g3 (by have := B1.out.size; simp; omega) (fun k hk => by cases hk))
      clear o3 g3
      go_wp2_with fail
      go_roundw
      case rel => exact .inr ⟨.inl rfl, rfl, O3.out, B3.out⟩
      case measure => simp [intOf]
    · rcases hv with rfl | rfl
      · have HO := Lib.hid ho
        have HB := Lib.hid hb
        have hrw : row? wr b = some (bare 1 ++ bare 30) := by rw [row?_below hb hlt]; exact HR.out
        have ld := (bare2_ld hrw).2
        have le := rldFF (wr.alloc (.cells (bare 30) 28)) wr.heap.size (by rw [row?_alloc_at _ _ _ _ rfl]; rfl)
        rw [row?_alloc_at _ _ _ _ rfl] at le
        have le' : (loadAgg 28 (.pointer (some ⟨wr.heap.size, 0, none⟩))).run Try.prog (wr.alloc (.cells (bare 30) 28)) = .ok (.agg (bare 30)) (wr.alloc (.cells (bare 30) 28)) := le
        clear le ho hb hrw
        go_wp2_with fail
        refine (len_bare 30 (.inr rfl) _).mono ?_
        rintro e w1 ⟨rfl, b1⟩
        have B1' := Lib.hid ((Below.refl wr.heap.size wr).alloc (Nat.le_refl _) (.cells (bare 30) 28) |>.trans (b1.mono (by simp)))
        have B1 := Lib.hid (HB.out.trans (B1'.out.mono HB.out.size))
        have O1 := Lib.hid (own_grown (r := none) HO.out ⟨B1'.out.os, B1'.out.tape, B1'.out.output, B1'.out.size, fun k hk _ => B1'.out.block k hk⟩ (fun k _ e => by cases e))
        clear b1 le' ld
        go_wp2_with fail
        go_roundw
        case rel => exact .inr ⟨.inr rfl, rfl, O1.out, B1.out⟩
        case measure => simp [intOf]
      · have HO := Lib.hid ho
        have HB := Lib.hid hb
        clear ho hb
        go_wp2_with fail
        go_ret
        exact ⟨_, rfl, Own.si (l := [(0 : Int)]) HO.out, HB.out⟩
end Go.Proofs.Ytipniobgijdlkaa
end
section
/- The walks of package mantillaref7's plain and May. -/
namespace Frm
/-- Nothing but what its kind has. -/
def plainB (n d nr i o : Nat) (fin : Bool) (nd nc nt : Nat) : Bool :=
  decide (n = 0) && decide (d = 0) && decide (nr = 0) && decide (i = 0) && decide (o = 0) && !fin && decide (nd = 0) && decide (nc = 0) && decide (nt = 0)
end Frm
namespace Go.Proofs.Ytipniobgijdlkaa
open Go.RowKit Go.Rw Frm Hdr
attribute [local go_sem ↓] ldFF stFF alFF ldH stH alH bdH
attribute [local go_sem] rldFF rstFF ralFF rldH rstH ralH setRow_alloc_at setRow_alloc_past setRow_drew
theorem fv_cells {w : World} {b : Nat} {k : Int} {n d i o : Nat} {fin : Bool} {vr vd vc vt : Value} (h : row? w b = some (fvA k n d vr i o fin vd vc vt)) :
    w.cell? ⟨b, 0, none⟩ = some (.int .i64 k) ∧ w.cell? ⟨b, 1, none⟩ = some (.int .u64 n) ∧ w.cell? ⟨b, 2, none⟩ = some (.int .u64 d) ∧ w.cell? ⟨b, 3, none⟩ = some vr ∧ w.cell? ⟨b, 4, none⟩ = some (.int .u64 i) ∧ w.cell? ⟨b, 5, none⟩ = some (.int .u64 o) ∧ w.cell? ⟨b, 6, none⟩ = some (.bool fin) ∧ w.cell? ⟨b, 7, none⟩ = some vd ∧ w.cell? ⟨b, 8, none⟩ = some vc ∧ w.cell? ⟨b, 9, none⟩ = some vt :=
  ⟨row?_cell h 0, row?_cell h 1, row?_cell h 2, row?_cell h 3, row?_cell h 4, row?_cell h 5, row?_cell h 6, row?_cell h 7, row?_cell h 8, row?_cell h 9⟩
set_option maxHeartbeats 2000000 in
theorem plain_any (k : Int) (n d i o : Nat) (fin : Bool) (a1 a2 a3 a4 : Option Addr) (nr nd nc nt e1 e2 e3 e4 : Nat) (w : World) :
    Calls Try.prog 42 #[.agg (fvA k n d (.slice a1 nr e1) i o fin (.slice a2 nd e2) (.slice a3 nc e3) (.slice a4 nt e4))] w fun e w' => e = .returned (.bool (plainB n d nr i o fin nd nc nt)) ∧ Below w.heap.size w w' := by
  have B1 := Lib.hid (((Below.refl w.heap.size w).alloc (Nat.le_refl _) (.cells (fvA k n d (.slice a1 nr e1) i o fin (.slice a2 nd e2) (.slice a3 nc e3) (.slice a4 nt e4)) 28)))
  obtain ⟨c0, c1, c2, c3, c4, c5, c6, c7, c8, c9⟩ := fv_cells (row?_alloc_at w (fvA k n d (.slice a1 nr e1) i o fin (.slice a2 nd e2) (.slice a3 nc e3) (.slice a4 nt e4)) 28 w.heap.size rfl)
  obtain ⟨r, hr⟩ : ∃ r, plainB n d nr i o fin nd nc nt = r := ⟨_, rfl⟩
  rw [hr]
  have HR := Lib.hid hr
  clear hr
  go_enter Try.func42, Try.ntmps42
  by_cases h0 : n = 0
  case neg =>
    have q0 : ((n : Int) == 0) = false := by simpa using h0
    go_wp2_with fail
    go_ret
    exact ⟨congrArg (fun z => Ending.returned (.bool z)) (by rw [← HR.out]; simp [plainB, h0]), B1.out⟩
  subst h0
  by_cases h1 : d = 0
  case neg =>
    have q1 : ((d : Int) == 0) = false := by simpa using h1
    go_wp2_with fail
    go_ret
    exact ⟨congrArg (fun z => Ending.returned (.bool z)) (by rw [← HR.out]; simp [plainB, h1]), B1.out⟩
  subst h1
  by_cases h2 : nr = 0
  case neg =>
    have q2 : ((nr : Int) == 0) = false := by simpa using h2
    go_wp2_with fail
    go_ret
    exact ⟨congrArg (fun z => Ending.returned (.bool z)) (by rw [← HR.out]; simp [plainB, h2]), B1.out⟩
  subst h2
  by_cases h3 : i = 0
  case neg =>
    have q3 : ((i : Int) == 0) = false := by simpa using h3
    go_wp2_with fail
    go_ret
    exact ⟨congrArg (fun z => Ending.returned (.bool z)) (by rw [← HR.out]; simp [plainB, h3]), B1.out⟩
  subst h3
  by_cases h4 : o = 0
  case neg =>
    have q4 : ((o : Int) == 0) = false := by simpa using h4
    go_wp2_with fail
    go_ret
    exact ⟨congrArg (fun z => Ending.returned (.bool z)) (by rw [← HR.out]; simp [plainB, h4]), B1.out⟩
  subst h4
  cases fin
  case true =>
    go_wp2_with fail
    go_ret
    exact ⟨congrArg (fun z => Ending.returned (.bool z)) (by rw [← HR.out]; simp [plainB]), B1.out⟩
  by_cases h6 : nd = 0
  case neg =>
    have q6 : ((nd : Int) == 0) = false := by simpa using h6
    go_wp2_with fail
    go_ret
    exact ⟨congrArg (fun z => Ending.returned (.bool z)) (by rw [← HR.out]; simp [plainB, h6]), B1.out⟩
  subst h6
  by_cases h7 : nc = 0
  case neg =>
    have q7 : ((nc : Int) == 0) = false := by simpa using h7
    go_wp2_with fail
    go_ret
    exact ⟨congrArg (fun z => Ending.returned (.bool z)) (by rw [← HR.out]; simp [plainB, h7]), B1.out⟩
  subst h7
  by_cases h8 : nt = 0
  case neg =>
    have q8 : ((nt : Int) == 0) = false := by simpa using h8
    go_wp2_with fail
    go_ret
    exact ⟨congrArg (fun z => Ending.returned (.bool z)) (by rw [← HR.out]; simp [plainB, h8]), B1.out⟩
  subst h8
  go_wp2_with fail
  go_ret
  exact ⟨congrArg (fun z => Ending.returned (.bool z)) (by rw [← HR.out]; simp [plainB]), B1.out⟩
end Go.Proofs.Ytipniobgijdlkaa
end
section
/- Frames in plain words: whether one may be. -/
namespace Frm
open Go Go.Rw
/-- Is the range at i one that may stand there? -/
def rOk (l : List (Nat × Nat)) (i : Nat) : Bool :=
  decide ((l.getD i (0, 0)).1 ≤ (l.getD i (0, 0)).2) && decide ((l.getD i (0, 0)).2 ≤ 4611686018427387903) &&
    (decide (i = 0) || (decide (2 ≤ (l.getD (i - 1) (0, 0)).1) && decide ((l.getD i (0, 0)).2 ≤ (l.getD (i - 1) (0, 0)).1 - 2)))
def rsAll (l : List (Nat × Nat)) (k : Nat) : Bool := (List.range k).all (rOk l)
theorem rsAll_succ (l : List (Nat × Nat)) (k : Nat) : rsAll l (k + 1) = (rsAll l k && rOk l k) := by
  simp [rsAll, List.range_succ]
/-- May ranges be an Ack's? -/
def rsOk (l : List (Nat × Nat)) : Bool := decide (1 ≤ l.length) && decide (l.length ≤ 8) && rsAll l l.length
def pN (k : Int) : Bool := decide (k = 0 ∨ k = 16 ∨ k = 25 ∨ k = 28 ∨ k = 24)
def pAck (k : Int) : Bool := decide (k = 2)
def pId (k : Int) : Bool := decide (k = 8)
def pOff (k : Int) : Bool := decide (k = 6 ∨ k = 8)
def pData (k : Int) : Bool := decide (k = 6 ∨ k = 8 ∨ k = 26 ∨ k = 27)
def pCid (k : Int) : Bool := decide (k = 24)
def pOk (k : Int) : Bool := decide (k = 1 ∨ k = 30 ∨ k = 0 ∨ k = 16 ∨ k = 25 ∨ k = 28 ∨ k = 2 ∨ k = 6 ∨ k = 8 ∨ k = 24 ∨ k = 26 ∨ k = 27)
theorem hasP_eq (k : Int) : hasP k = (#[.bool (pN k), .bool (pAck k), .bool (pId k), .bool (pOff k), .bool (pId k), .bool (pData k), .bool (pCid k)], pOk k) := by
  unfold hasP pN pAck pId pOff pData pCid pOk
  repeat' split
  all_goals rename_i h
  all_goals first
    | (rcases h with h | h | h | h <;> subst h <;> rfl)
    | (rcases h with h | h <;> subst h <;> rfl)
    | (subst h; rfl)
    | skip
  rw [decide_eq_false (by omega), decide_eq_false (by omega), decide_eq_false (by omega), decide_eq_false (by omega), decide_eq_false (by omega), decide_eq_false (by omega), decide_eq_false (by omega)]
/-- Have data the length that they must? -/
def dlB (k : Int) (nd o : Nat) : Bool :=
  if k = 26 ∨ k = 27 then decide (nd = 8) else if k = 6 ∨ k = 8 then decide (nd ≤ 16383) && decide (o + nd ≤ 4611686018427387903) else true
def no1 (k : Int) (n i o : Nat) (fin : Bool) (nd : Nat) : Bool :=
  !pOk k || (decide (n ≠ 0) && !pN k) || (decide (i ≠ 0) && !pId k) || (decide (o ≠ 0) && !pOff k) || (fin && !pId k) || (decide (0 < nd) && !pData k)
def no2 (k : Int) (d nr nc nt : Nat) : Bool := (!pAck k && (decide (d ≠ 0) || decide (0 < nr))) || (!pCid k && decide (0 < nc + nt))
def no3 (n i o d : Nat) : Bool := decide (4611686018427387903 < n) || decide (4611686018427387903 < i) || decide (4611686018427387903 < o) || decide (4611686018427387903 < d)
def no4 (k : Int) (nc nt : Nat) (ok : Bool) : Bool := (pCid k && (decide (nc ≠ 8) || decide (nt ≠ 16))) || (pAck k && !ok)
def no5 (k : Int) (n : Nat) : Bool := decide (k = 0) && (decide (n < 1) || decide (16384 < n))
/-- May a frame be? As the program asks. -/
def mayG (k : Int) (n d nr : Nat) (ok : Bool) (i o : Nat) (fin : Bool) (nd nc nt : Nat) : Bool :=
  !no1 k n i o fin nd && !no2 k d nr nc nt && !no3 n i o d && !no4 k nc nt ok && !no5 k n && dlB k nd o
/-- May a frame be? As the document asks. -/
def mayB (k : Int) (n d nr : Nat) (ok : Bool) (i o : Nat) (fin : Bool) (nd nc nt : Nat) : Bool :=
  if k = 0 then decide (1 ≤ n ∧ n ≤ 16384) && plainB 0 d nr i o fin nd nc nt
  else if k = 1 ∨ k = 30 then plainB n d nr i o fin nd nc nt
  else if k = 2 then decide (d ≤ 4611686018427387903) && ok && plainB n 0 0 i o fin nd nc nt
  else if k = 6 then decide (nd < 16384 ∧ i ≤ 4611686018427387903 ∧ o + nd ≤ 4611686018427387903) && plainB n d nr i 0 fin 0 nc nt
  else if k = 8 then decide (nd < 16384 ∧ i ≤ 4611686018427387903 ∧ o + nd ≤ 4611686018427387903) && plainB n d nr 0 0 false 0 nc nt
  else if k = 16 ∨ k = 25 ∨ k = 28 then decide (n ≤ 4611686018427387903) && plainB 0 d nr i o fin nd nc nt
  else if k = 24 then decide (n ≤ 4611686018427387903 ∧ nc = 8 ∧ nt = 16) && plainB 0 d nr i o fin nd 0 0
  else if k = 26 ∨ k = 27 then decide (nd = 8) && plainB n d nr i o fin 0 nc nt
  else false
set_option maxHeartbeats 1000000 in
theorem may_eq (k : Int) (n d nr : Nat) (ok : Bool) (i o : Nat) (fin : Bool) (nd nc nt : Nat) (hok : ok = true → 1 ≤ nr) : mayG k n d nr ok i o fin nd nc nt = mayB k n d nr ok i o fin nd nc nt := by
  rw [Bool.eq_iff_iff]
  unfold mayB
  repeat' split
  all_goals rename_i h
  all_goals first
    | (rcases h with h | h | h | h <;> subst h)
    | (rcases h with h | h | h <;> subst h)
    | (rcases h with h | h <;> subst h)
    | (subst h)
    | skip
  all_goals cases fin <;> cases ok <;> simp [mayG, no1, no2, no3, no4, no5, dlB, pOk, pN, pAck, pId, pOff, pData, pCid, plainB] at hok ⊢ <;> omega
end Frm
end
