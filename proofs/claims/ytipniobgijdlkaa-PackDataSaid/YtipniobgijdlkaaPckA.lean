/- The walks of package pack that awake comes to: Data, Fill, Choose at its inputs. -/
import Derived.Test.YtipniobgijdlkaaFrmP
import Derived.Test.YtipniobgijdlkaaLibZ
import Derived.Test.YtipniobgijdlkaaTonW4
namespace Go.Proofs.Ytipniobgijdlkaa
open Go.RowKit Go.Rw Frm Hdr
attribute [local go_sem ↓] ldFF stFF alFF
attribute [local go_sem] rldFF rstFF ralFF setRow_alloc_at setRow_alloc_past setRow_drew
theorem bare_size (k : Int) : (bare k).size = 10 := by simp [bare, fvA]
theorem bare_all (k : Int) : allOne (bare k) = true := by simp [bare, fvA, allOne, Value.oneCell']
attribute [local go_sem] bare_size bare_all
set_option maxHeartbeats 1000000 in
theorem data_209 (w : World) :
    Calls Try.prog 14 #[.int .u64 2, .int .u64 0, .int .i64 9] w fun e w' => e = .returned (.int .i64 5) ∧ Below w.heap.size w w' := by
  go_enter Try.func14, Try.ntmps14
  go_wp2_with fail
  refine (vlen_any 2 (by omega) _).mono ?_
  rw [show vlen 2 = 1 from rfl]
  rintro e w1 ⟨rfl, b1⟩
  have B1 := Lib.hid b1
  clear b1
  go_wp2_with fail
  refine (vlen_any 0 (by omega) _).mono ?_
  rw [show vlen 0 = 1 from rfl]
  rintro e w2 ⟨rfl, b2⟩
  have B2 := Lib.hid (B1.out.trans (b2.mono B1.out.size))
  clear b2
  go_wp2_with fail
  go_loopw [8] (fun v wr => (v = .int .i64 6 ∨ v = .int .i64 5) ∧ Below w.heap.size w wr) (fun v _ => (intOf v).toNat)
  case atStart => exact ⟨.inl rfl, B2.out⟩
  case round =>
    obtain ⟨hv, hb⟩ := hrel
    have HB := Lib.hid hb
    clear hb
    rcases hv with rfl | rfl
    · go_wp2_with fail
      refine (vlen_any 6 (by omega) _).mono ?_
      rw [show vlen 6 = 1 from rfl]
      rintro e w3 ⟨rfl, b3⟩
      have B3 := Lib.hid (HB.out.trans (b3.mono HB.out.size))
      clear b3
      go_wp2_with fail
      go_roundw
      case rel => exact ⟨.inr rfl, B3.out⟩
      case measure => simp [intOf]
    · go_wp2_with fail
      refine (vlen_any 5 (by omega) _).mono ?_
      rw [show vlen 5 = 1 from rfl]
      rintro e w3 ⟨rfl, b3⟩
      have B3 := Lib.hid (HB.out.trans (b3.mono HB.out.size))
      clear b3
      go_wp2_with fail
      go_ret
      exact ⟨rfl, B3.out⟩
set_option maxHeartbeats 1000000 in
theorem fill_ping (w : World) (b : Nat) (hr : row? w b = some (bare 1)) :
    Calls Try.prog 20 #[.slice (some ⟨b, 0, none⟩) 1 1, .int .i64 3] w fun e w' => ∃ v, e = .returned (.tuple #[v, .int .i64 0]) ∧ Sl w' v [1, 0, 0] ∧ Below w.heap.size w w' := by
  obtain ⟨i0, hi, hz0, hz1, hz2⟩ := info_parts info8
  have hlt := row?_lt hr
  have ld := rldFF w b (by rw [hr]; rfl)
  rw [hr] at ld
  have ld' : (loadAgg 28 (.pointer (some ⟨b, 0, none⟩))).run Try.prog w = .ok (.agg (bare 1)) w := ld
  clear ld
  go_enter Try.func20, Try.ntmps20
  go_wp2_with fail
  go_loopw [6, 11] (fun o v wr => (v = .int .i64 0 ∧ o = .slice none 0 0 ∧ wr = w) ∨ (v = .int .i64 1 ∧ wr.ownsRow w.heap.size 5 1 o 1 (([1] : List UInt8).map bv) ∧ Below w.heap.size w wr)) (fun _ v _ => 2 - (intOf v).toNat)
  case atStart => exact .inl ⟨rfl, rfl, rfl⟩
  case round =>
    rcases hrel with ⟨rfl, rfl, rfl⟩ | ⟨rfl, ho, hb⟩
    · have c0 := (bare_cells (row?_alloc_at wr (bare 1) 28 wr.heap.size rfl)).1
      have le := rldFF (wr.alloc (.cells (bare 1) 28)) wr.heap.size (by rw [row?_alloc_at _ _ _ _ rfl]; rfl)
      rw [row?_alloc_at _ _ _ _ rfl] at le
      have le' : (loadAgg 28 (.pointer (some ⟨wr.heap.size, 0, none⟩))).run Try.prog (wr.alloc (.cells (bare 1) 28)) = .ok (.agg (bare 1)) (wr.alloc (.cells (bare 1) 28)) := le
      clear le
      go_wp2_with fail
      refine (may_bare 1 (.inl rfl) _).mono ?_
      rintro e w1 ⟨rfl, b1⟩
      have R1 := Lib.hid (show row? w1 wr.heap.size = some (bare 1) by rw [row?_below b1 (by simp)]; exact row?_alloc_at _ _ _ _ rfl)
      have B1 := Lib.hid (((Below.refl wr.heap.size wr).alloc (Nat.le_refl _) (.cells (bare 1) 28)).trans (b1.mono (by simp)))
      have l1 := rldFF w1 wr.heap.size (by rw [R1.out]; rfl)
      rw [R1.out] at l1
      have l1' : (loadAgg 28 (.pointer (some ⟨wr.heap.size, 0, none⟩))).run Try.prog w1 = .ok (.agg (bare 1)) w1 := l1
      clear l1 b1 c0 le' ld'
      go_wp2_with fail
      refine (put_bare 1 (.inl rfl) _).mono ?_
      rintro e w2 ⟨v2, rfl, o2, b2⟩
      have s2 := Lib.hid (Own.sl (l := [UInt8.ofNat 1]) o2)
      have B2 := Lib.hid (B1.out.trans (b2.mono B1.out.size))
      clear o2 b2 l1'
      go_wp2_with (at_builtin; refine app_sl rfl _ _ 25 rfl wr.heap.size 5 i0 Try.underlying25 hi hz0 hz1 hz2 (.slice none 0 0) [] rfl (World.ownsRow_nil _ _ _ _) _ [UInt8.ofNat 1] rfl s2.out ?hl ?hb ?_)
      case hl => simp
      case hb => exact B2.out.size
      intro v3 w3 o3 g3
      have O3 := Lib.hid (show w3.ownsRow wr.heap.size 5 1 v3 1 (([1] : List UInt8).map bv) from o3)
      have B3 := Lib.hid (B2.out.grown g3 B2.out.size (fun k hk => by cases hk))
      clear o3 g3
      go_wp2_with fail
      go_roundw
      case rel => exact .inr ⟨rfl, O3.out, B3.out⟩
      case measure => simp [intOf]
    · obtain ⟨ao, cap, rfl, -, -, -⟩ := Own.sl (l := [(1 : UInt8)]) ho
      have HO := Lib.hid ho
      have HB := Lib.hid hb
      clear ho hb ld'
      go_wp2_with (at_builtin; refine app_zeros rfl _ _ 25 3 rfl w.heap.size 5 i0 Try.underlying25 Try.underlying3 hi hz0 hz1 hz2 _ [1] rfl HO.out 2 rfl ?hl2 ?hm2 ?hb2 ?_)
      case hl2 => simp
      case hm2 => omega
      case hb2 => exact HB.out.size
      intro v3 w3 o3 g3
      have S3 := Lib.hid (Own.sl (l := [1, 0, 0]) o3)
      have B3 := Lib.hid (HB.out.grown g3 HB.out.size (fun k hk => (HO.out.lt k hk).1))
      clear o3 g3
      go_wp2_with fail
      go_ret2
      exact ⟨_, rfl, S3.out, B3.out⟩
theorem infoJ : (Try.prog.info? 3).map (fun i => (i.zero, i.size, i.bytes)) = some (some (.int .i64 0), 1, 8) := by kernel_rfl
theorem bare2_ld {w : World} {b : Nat} (h : row? w b = some (bare 1 ++ bare 30)) : (loadAgg 28 (.pointer (some ⟨b, 0, none⟩))).run Try.prog w = .ok (.agg (bare 1)) w ∧ (loadAgg 28 (.pointer (some ⟨b, 10, none⟩))).run Try.prog w = .ok (.agg (bare 30)) w := by
  constructor
  · rw [part_rule AgFF w b 0 (decide_eq_true (by rw [h]; show _ ≤ (bare 1 ++ bare 30).size; simp [bare_size])) (by rw [h]; rfl), h]
    rfl
  · rw [part_rule AgFF w b 10 (decide_eq_true (by rw [h]; show _ ≤ (bare 1 ++ bare 30).size; simp [bare_size])) (by rw [h]; rfl), h]
    rfl
set_option maxHeartbeats 1000000 in
theorem choose_pd (w : World) (b : Nat) (hr : row? w b = some (bare 1 ++ bare 30)) :
    Calls Try.prog 19 #[.slice (some ⟨b, 0, none⟩) 2 2, .int .i64 1] w fun e w' => ∃ v, e = .returned v ∧ Si w' v [0] ∧ Below w.heap.size w w' := by
  obtain ⟨i0, hi, hz0, hz1, hz2⟩ := info_parts infoJ
  have hlt := row?_lt hr
  have HR := Lib.hid hr
  clear hr
  go_enter Try.func19, Try.ntmps19
  go_wp2_with fail
  go_loopw [1, 5, 11] (fun r o v wr => (v = .int .i64 0 ∧ r = .int .i64 1 ∧ o = .slice none 0 0 ∧ wr = w) ∨ ((v = .int .i64 1 ∨ v = .int .i64 2) ∧ r = .int .i64 0 ∧ wr.ownsRow w.heap.size 3 1 o 1 (([0] : List Int).map iv) ∧ Below w.heap.size w wr)) (fun _ _ v _ => 2 - (intOf v).toNat)
  case atStart => exact .inl ⟨rfl, rfl, rfl, rfl⟩
  case round =>
    rcases hrel with ⟨rfl, rfl, rfl, rfl⟩ | ⟨hv, rfl, ho, hb⟩
    · have ld := (bare2_ld HR.out).1
      have le := rldFF (wr.alloc (.cells (bare 1) 28)) wr.heap.size (by rw [row?_alloc_at _ _ _ _ rfl]; rfl)
      rw [row?_alloc_at _ _ _ _ rfl] at le
      have le' : (loadAgg 28 (.pointer (some ⟨wr.heap.size, 0, none⟩))).run Try.prog (wr.alloc (.cells (bare 1) 28)) = .ok (.agg (bare 1)) (wr.alloc (.cells (bare 1) 28)) := le
      clear le
      go_wp2_with fail
      refine (len_bare 1 (.inl rfl) _).mono ?_
      rintro e w1 ⟨rfl, b1⟩
      have B1 := Lib.hid (((Below.refl wr.heap.size wr).alloc (Nat.le_refl _) (.cells (bare 1) 28)).trans (b1.mono (by simp)))
      clear b1 le' ld
      go_wp2_with (at_builtin; refine app_si rfl _ _ 34 rfl wr.heap.size 3 i0 Try.underlying34 hi hz0 hz1 hz2 (.slice none 0 0) [] rfl (World.ownsRow_nil _ _ _ _) _ [0] rfl ?hu ?hl ?hb ?_)
      case hu =>
        have := Si.row (w := w1.alloc (.cells (ivs [0]) 3)) (g := w1.heap.size) (l := [0]) (row?_alloc_at _ _ _ _ rfl)
        exact this
      case hl => simp
      case hb => have := B1.out.size; simp; omega
      intro v3 w3 o3 g3
      have O3 := Lib.hid (show w3.ownsRow wr.heap.size 3 1 v3 1 (([0] : List Int).map iv) from o3)
      have B3 := Lib.hid ((B1.out.alloc B1.out.size (.cells #[.int .i64 0] 3)).grown g3 (by have := B1.out.size; simp; omega) (fun k hk => by cases hk))
      clear o3 g3
      go_wp2_with fail
      go_roundw
      case rel => exact .inr ⟨.inl rfl, rfl, O3.out, B3.out⟩
      case measure => simp [intOf]
    · rcases hv with rfl | rfl
      · have HO := Lib.hid ho
        have HB := Lib.hid hb
        have hrw : row? wr b = some (bare 1 ++ bare 30) := by rw [row?_below hb hlt]; exact HR.out
        have ld := (bare2_ld hrw).2
        have le := rldFF (wr.alloc (.cells (bare 30) 28)) wr.heap.size (by rw [row?_alloc_at _ _ _ _ rfl]; rfl)
        rw [row?_alloc_at _ _ _ _ rfl] at le
        have le' : (loadAgg 28 (.pointer (some ⟨wr.heap.size, 0, none⟩))).run Try.prog (wr.alloc (.cells (bare 30) 28)) = .ok (.agg (bare 30)) (wr.alloc (.cells (bare 30) 28)) := le
        clear le ho hb hrw
        go_wp2_with fail
        refine (len_bare 30 (.inr rfl) _).mono ?_
        rintro e w1 ⟨rfl, b1⟩
        have B1' := Lib.hid ((Below.refl wr.heap.size wr).alloc (Nat.le_refl _) (.cells (bare 30) 28) |>.trans (b1.mono (by simp)))
        have B1 := Lib.hid (HB.out.trans (B1'.out.mono HB.out.size))
        have O1 := Lib.hid (own_grown (r := none) HO.out ⟨B1'.out.os, B1'.out.tape, B1'.out.output, B1'.out.size, fun k hk _ => B1'.out.block k hk⟩ (fun k _ e => by cases e))
        clear b1 le' ld
        go_wp2_with fail
        go_roundw
        case rel => exact .inr ⟨.inr rfl, rfl, O1.out, B1.out⟩
        case measure => simp [intOf]
      · have HO := Lib.hid ho
        have HB := Lib.hid hb
        clear ho hb
        go_wp2_with fail
        go_ret
        exact ⟨_, rfl, Own.si (l := [(0 : Int)]) HO.out, HB.out⟩
end Go.Proofs.Ytipniobgijdlkaa
