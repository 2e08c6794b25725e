/- LibH; LibH2; FrmW1. -/
import Derived.Test.YtipniobgijdlkaaLibR
import Derived.Test.YtipniobgijdlkaaMgs7
import Derived.Test.YtipniobgijdlkaaMgs11
import Derived.Test.YtipniobgijdlkaaMgs5
section
/- An operation that a guard keeps from running, in a planned walk; stopping a walk ahead of a region, told by the number that its first operation writes. Over any program. -/
namespace Go.Rw
open Go Go.RowKit
/-- A goal held back from the walk: its second part's type names the goal, so that no rule of the walk opens it. -/
structure Held (p : Prop) (_x : PLift p → Unit) : Prop where
  mk ::
  out : p
theorem hold_ops (d : Nat) {P : Program} {op : Op} {t : TypeId} {p : String} {af : Array Edge} {g : Option (Nat × Bool)} {l rest : List Oper} {Q : Exit → Act → World → Prop} {a : Act} {w : World}
    (h : Held (wpList P (List.toArray (⟨some d, op, t, p, af, g⟩ :: l)) Q rest a w) (fun _ => ())) : wpList P (List.toArray (⟨some d, op, t, p, af, g⟩ :: l)) Q rest a w := h.out
end Go.Rw
namespace Go.Rg
open Go Go.RowKit
theorem plan_skipB {P : Program} {ops : Array Oper} {Q : Exit → Act → World → Prop} {a : Act} {w : World} {o : Oper} {k : Nat} {t : PT Oper} (g : Nat) (b : Bool) (_ : o.guard = some (g, b)) (hg : Region.wanted o (yielded ops a.tmps) = false)
    (h : wpPlan P ops Q t (a.put o.dst undef) w) : wpPlan P ops Q (.op o k t) a w := plan_skip hg h
end Go.Rg
end
section
/- An append to nothing, in a planned walk of a region that draws its order. Over any program. -/
namespace Go.Rg
open Go Go.RowKit Go.Rw
theorem plan_app0 (d : Nat) {P : Program} {ops : Array Oper} {Q : Exit → Act → World → Prop} {o : Oper} {T : PT Oper} {a : Act} {w : World} (_ : o.dst = some d) {t e : TypeId} {i : TypeInfo} (x : Operand) (ho : o.op = .call { callee := .builtin .append, args := #[.const (.slice none 0 0), x], argTypes := #[t, t] })
    (hg : Region.wanted o (yielded ops a.tmps) = true)
    (ht : P.underlying t = some (.slice e)) (hi : P.info? e = some i) (hz : i.zero = some (.int .u8 0)) (hsz : i.size = 1) (hby : i.bytes = 1) {v : Value} {l : List UInt8} (hx : a.eval x = v) (hs : Sl w v l) (hl : l.length ≤ 1000000)
    (h : ∀ v' w', w'.ownsRow w.heap.size e 1 v' l.length (l.map bv) → Below w.heap.size w w' → wpPlan P ops Q T (a.put o.dst v') w') : wpPlan P ops Q (.op o 1 T) a w := by
  refine plan_keep hg fun K hK => ?_
  refine upon_monoQ (Q := NoQ) (fun _ _ _ h => h.elim) ?_
  refine exec_app (.const (.slice none 0 0)) x ho ht hi hz hsz hby (Nat.le_refl _) (v0 := .slice none 0 0) (l0 := []) rfl (World.ownsRow_nil _ _ _ _) hx hs (by simp; omega) ?_
  intro v' w' h1 h2
  have hb : Below w.heap.size w w' := (Below.refl _ _).grown h2 (Nat.le_refl _) (by intro k hk; cases hk)
  exact hK _ _ (Keep.of_below hb) (h v' w' (by simpa using h1) hb)
theorem hold_plan (d k : Nat) {P : Program} {ops : Array Oper} {Q : Exit → Act → World → Prop} {op : Op} {t : TypeId} {p : String} {af : Array Edge} {g : Option (Nat × Bool)} {T : PT Oper} {a : Act} {w : World}
    (h : Held (wpPlan P ops Q (.op ⟨some d, op, t, p, af, g⟩ k T) a w) (fun _ => ())) : wpPlan P ops Q (.op ⟨some d, op, t, p, af, g⟩ k T) a w := h.out
end Go.Rg
end
section
/- The walks of package frame's reader: what is wrong first; a number; so many bytes; a zero. -/
namespace Go.Proofs.Ytipniobgijdlkaa
open Go.RowKit Go.Rw Frm Hdr
theorem RSdrew {b : List UInt8} {w0 : World} {vb : Value} {B : Nat} {w : World} {s : Nat × Int} (h : RS b w0 vb B w s) : RS b w0 vb B w.drew s :=
  ⟨(row?_drew _ _).trans h.row, h.at_, h.len, h.sl, h.bel.drew, h.low⟩
theorem rs_cells {b : List UInt8} {w0 : World} {vb : Value} {B : Nat} {w : World} {s : Nat × Int} (h : RS b w0 vb B w s) :
    w.cell? ⟨B, 0, none⟩ = some vb ∧ w.cell? ⟨B, 1, none⟩ = some (.int .i64 (s.1 : Nat)) ∧ w.cell? ⟨B, 2, none⟩ = some (.int .i64 s.2) ∧ (∀ j, w.frozen? ⟨B, j, none⟩ = false) :=
  ⟨row?_cell h.row 0, row?_cell h.row 1, row?_cell h.row 2, fun j => row?_frozen h.row j⟩
set_option maxHeartbeats 1000000 in
theorem ffail_any (b : List UInt8) (w0 : World) (vb : Value) (B : Nat) (w : World) (s : Nat × Int) (is : Bool) (x : Int) (hr : RS b w0 vb B w s) :
    Calls Try.prog 71 #[.pointer (some ⟨B, 0, none⟩), .bool is, .int .i64 x] w fun e w' => e = .returned (.bool ((rfail is x s).2 != 0)) ∧ Mut B w w' ∧ RS b w0 vb B w' (rfail is x s) := by
  obtain ⟨at_, er⟩ := s
  obtain ⟨c0, c1, c2, ff⟩ := rs_cells hr
  have HR := Lib.hid hr
  clear hr c0 c1
  cases is
  · rw [rfail_ok]
    go_enter Try.func71, Try.ntmps71
    go_wp2_with fail
    go_ret
    exact ⟨rfl, Mut.refl _ _, HR.out⟩
  · by_cases he : er = 0
    · subst he
      have e : rfail true x (at_, 0) = (at_, x) := by simp [rfail]
      rw [e]
      go_enter Try.func71, Try.ntmps71
      go_wp2_with fail
      go_ret
      have m : Mut B w (w.setCell ⟨B, 2, none⟩ (.int .i64 x)) := (Mut.refl _ _).setCell _ _ _
      exact ⟨rfl, m, HR.out.mut m (by rw [row?_setCell_eq HR.out.row]; rfl) HR.out.at_⟩
    · have e : rfail true x (at_, er) = (at_, er) := by simp [rfail, he]
      rw [e]
      have q : (er == 0) = false := by simpa using he
      go_enter Try.func71, Try.ntmps71
      go_wp2_with fail
      go_ret
      exact ⟨rfl, Mut.refl _ _, HR.out⟩
set_option maxRecDepth 20000 in
set_option maxHeartbeats 1000000 in
theorem fnum_any (b : List UInt8) (w0 : World) (vb : Value) (B : Nat) (w : World) (s : Nat × Int) (hr : RS b w0 vb B w s) :
    Calls Try.prog 65 #[.pointer (some ⟨B, 0, none⟩)] w fun e w' => e = .returned (.int .u64 ((rvar b s).2 : Nat)) ∧ Mut B w w' ∧ RS b w0 vb B w' (rvar b s).1 := by
  obtain ⟨at_, er⟩ := s
  obtain ⟨c0, c1, c2, ff⟩ := rs_cells hr
  have hat : at_ ≤ b.length := hr.at_
  have hlen := hr.len
  obtain ⟨ao, cap, rfl, hc, -, -⟩ := id hr.sl
  have HR := Lib.hid hr
  clear hr
  by_cases he : er = 0
  · subst he
    have hv := vget_any (b.drop at_) (by rw [List.length_drop]; omega)
    have hsc := HR.out.sl.cut at_ b.length hat (Nat.le_refl _)
    rw [List.take_length] at hsc
    have hvar : rvar b (at_, 0) = ((at_ + (vget (b.drop at_)).2.1, (vget (b.drop at_)).2.2), (vget (b.drop at_)).1) := by unfold rvar; rw [if_neg (by simp)]
    have hle := rvar_le b (at_, 0) hat
    rw [hvar] at hle ⊢
    have hm8 := vget_many8 (b.drop at_)
    generalize vget (b.drop at_) = q at *
    obtain ⟨n, many, x⟩ := q
    simp only [] at hv hm8 hle ⊢
    have hcut : ∀ W, (Instr.sliceAt 25 (.slice ao b.length cap) (some (.int .i64 (at_ : Nat))) none none).run Try.prog W = .ok (.slice (cutA ao at_ cap) (b.length - at_) (cap - at_)) W := fun W => by
      rw [cut_l TB W _ _ _ _ _ (by omega) (by omega), Int.toNat_natCast]
    have HV := Lib.hid hv
    have SC := Lib.hid hsc
    clear hv hsc hvar
    go_enter Try.func65, Try.ntmps65
    go_wp2_with fail
    refine Rg.wp_region_plan (Rg.row [(0, 3), (1, 3), (2, 3), (3, 0), (4, 3), (5, 3), (6, 3), (7, 0), (8, 3), (9, 1), (10, 3), (11, 3), (12, 3), (13, 3), (14, 3), (15, 3), (16, 3)] []) [] (by kernel_rfl) (by kernel_rfl) ?_
    simp only [Rg.row, Rg.PT.map, List.map_nil, List.getD_cons_zero, List.getD_cons_succ]
    go_wp2_with (first
      | ((with_reducible refine Rg.plan_pure ?_ ?_ ?_); kernel_rfl; kernel_rfl; intro _ _)
      | ((with_reducible refine Rg.plan_take ?_ ?_ ?_); kernel_rfl; kernel_rfl; intro _ _)
      | ((with_reducible refine Rg.plan_keep ?_ ?_); kernel_rfl; intro K hK)
      | (refine hK _ _ (Rg.Keep.refl _) ?_; clear hK)
      | (refine hK _ _ (Rg.Keep.of_below (by assumption)) ?_; clear hK)
      | ((with_reducible refine Rg.plan_skip ?_ ?_); kernel_rfl)
      | (with_reducible refine Rg.plan_done ?_)
      | (with_reducible refine Rg.calm_normal ?_))
    refine (HV.out _ _ (SC.out.below HR.out.bel.drew)).mono ?_
    rintro e w1 ⟨rfl, rfl⟩
    refine hK _ _ (Rg.Keep.refl _) ?_
    clear hK c0 c1 c2 ff
    go_wp2_with (first
      | ((with_reducible refine Rg.plan_pure ?_ ?_ ?_); kernel_rfl; kernel_rfl; intro _ _)
      | ((with_reducible refine Rg.plan_take ?_ ?_ ?_); kernel_rfl; kernel_rfl; intro _ _)
      | ((with_reducible refine Rg.plan_keep ?_ ?_); kernel_rfl; intro K hK)
      | (refine hK _ _ (Rg.Keep.refl _) ?_; clear hK)
      | (refine hK _ _ (Rg.Keep.of_below (by assumption)) ?_; clear hK)
      | ((with_reducible refine Rg.plan_skip ?_ ?_); kernel_rfl)
      | (with_reducible refine Rg.plan_done ?_)
      | (with_reducible refine Rg.calm_normal ?_))
    refine (ffail_any b w0 _ B _ (at_, 0) (x != 0) x (RSdrew HR.out)).mono ?_
    have ef : rfail (x != 0) x (at_, 0) = (at_, x) := by
      by_cases hx : x = 0
      · subst hx; rfl
      · rw [show (x != 0) = true by simpa using hx]; rfl
    rw [ef]
    rintro e w2 ⟨rfl, m2, r2⟩
    obtain ⟨c0, c1, c2, ff⟩ := rs_cells r2
    simp only [] at c1
    have hwr : wrap64 ((at_ : Int) + (many : Int)) = (at_ : Int) + (many : Int) := by unfold wrap64; omega
    have M2 := Lib.hid (((Mut.refl B w).drew).trans m2)
    have R2 := Lib.hid r2
    clear m2 r2 ef c0 c2 HV SC hcut
    go_wp2_with fail
    go_ret
    have m : Mut B w2 (w2.setCell ⟨B, 1, none⟩ (.int .i64 ((at_ : Int) + (many : Int)))) := (Mut.refl _ _).setCell _ _ _
    exact ⟨rfl, M2.out.trans m, R2.out.mut m (by rw [row?_setCell_eq R2.out.row, ← Int.natCast_add]; rfl) hle⟩
  · have e : rvar b (at_, er) = ((at_, er), 0) := rvar_bad (by simpa using he)
    rw [e]
    go_enter Try.func65, Try.ntmps65
    go_wp2_with fail
    go_ret
    exact ⟨rfl, Mut.refl _ _, HR.out⟩
set_option maxRecDepth 20000 in
set_option maxHeartbeats 1000000 in
theorem ftake_any (b : List UInt8) (w0 : World) (vb : Value) (B : Nat) (w : World) (s : Nat × Int) (n : Nat) (hn : n < 4611686018427387904) (hr : RS b w0 vb B w s) :
    Calls Try.prog 67 #[.pointer (some ⟨B, 0, none⟩), .int .u64 (n : Nat)] w fun e w' => ∃ v, e = .returned v ∧ w'.ownsRow w.heap.size 5 1 v (rtake b n s).2.length ((rtake b n s).2.map bv) ∧ Mut B w w' ∧ RS b w0 vb B w' (rtake b n s).1 := by
  obtain ⟨at_, er⟩ := s
  obtain ⟨i0, hi0, hz0, hz1, hz2⟩ := info_parts info8
  obtain ⟨c0, c1, c2, ff⟩ := rs_cells hr
  have hat : at_ ≤ b.length := hr.at_
  have hlen := hr.len
  obtain ⟨ao, cap, rfl, hc, -, -⟩ := id hr.sl
  simp only [] at c1
  have hw1 : wrap64 ((b.length : Int) - (at_ : Int)) = (b.length : Int) - (at_ : Int) := by unfold wrap64; omega
  have hw2 : IntKind.u64.wrap ((b.length : Int) - (at_ : Int)) = ((b.length - at_ : Nat) : Int) := by simp only [IntKind.wrap_u64]; omega
  have HR := Lib.hid hr
  obtain ⟨q, hq⟩ : ∃ q, rtake b n (at_, er) = q := ⟨_, rfl⟩
  rw [hq]
  have HQ := Lib.hid hq
  clear hr hq
  go_enter Try.func67, Try.ntmps67
  go_wp2_with fail
  refine Rg.wp_region_plan (Rg.row [(0, 3), (1, 3), (2, 3), (3, 3), (4, 3), (5, 0), (6, 0), (7, 3), (8, 3), (9, 3), (10, 0), (11, 3), (12, 3), (13, 3)] [14]) [14] (by kernel_rfl) (by kernel_rfl) ?_
  simp only [Rg.row, Rg.PT.map, List.map_cons, List.map_nil, List.getD_cons_zero, List.getD_cons_succ]
  go_wp2_with (first
    | ((with_reducible refine Rg.plan_pure ?_ ?_ ?_); kernel_rfl; kernel_rfl; intro _ _)
    | ((with_reducible refine Rg.plan_take ?_ ?_ ?_); kernel_rfl; kernel_rfl; intro _ _)
    | ((with_reducible refine Rg.plan_keep ?_ ?_); kernel_rfl; intro K hK)
    | (refine hK _ _ (Rg.Keep.refl _) ?_; clear hK)
    | (refine hK _ _ (Rg.Keep.of_below (by assumption)) ?_; clear hK)
    | ((with_reducible refine Rg.plan_skip ?_ ?_); kernel_rfl)
    | (with_reducible refine Rg.plan_done ?_)
    | (with_reducible refine Rg.calm_normal ?_))
  refine (ffail_any b w0 _ B _ (at_, er) (decide (b.length - at_ < n)) 3 (RSdrew HR.out)).mono ?_
  by_cases he : er = 0
  case neg =>
    have e1 : rfail (decide (b.length - at_ < n)) 3 (at_, er) = (at_, er) := rfail_bad (by simpa using he)
    have e2 : rtake b n (at_, er) = ((at_, er), []) := rtake_bad (by simpa using he)
    have e3 : (er != 0) = true := by simpa using he
    have hq := HQ.out
    rw [e2] at hq
    subst hq
    rw [e1]
    simp only [e3]
    rintro e w2 ⟨rfl, m2, r2⟩
    have M2 := Lib.hid (((Mut.refl B w).drew).trans m2)
    have R2 := Lib.hid r2
    clear m2 r2 c0 c1 c2 ff e1 e2 e3 hw1 hw2
    go_wp2_with (first
      | ((with_reducible refine Rg.plan_pure ?_ ?_ ?_); kernel_rfl; kernel_rfl; intro _ _)
      | ((with_reducible refine Rg.plan_take ?_ ?_ ?_); kernel_rfl; kernel_rfl; intro _ _)
      | ((with_reducible refine Rg.plan_keep ?_ ?_); kernel_rfl; intro K hK)
      | (refine hK _ _ (Rg.Keep.refl _) ?_; clear hK)
      | (refine hK _ _ (Rg.Keep.of_below (by assumption)) ?_; clear hK)
      | ((with_reducible refine Rg.plan_skip ?_ ?_); kernel_rfl)
      | (with_reducible refine Rg.plan_done ?_)
      | (with_reducible refine Rg.calm_normal ?_))
    go_ret
    exact ⟨_, rfl, World.ownsRow_nil _ _ _ _, M2.out, R2.out⟩
  subst he
  by_cases hsh : b.length - at_ < n
  case pos =>
    have hq := HQ.out
    rw [rtake_short hsh] at hq
    subst hq
    rw [decide_eq_true hsh, rfail_yes]
    rintro e w2 ⟨rfl, m2, r2⟩
    have M2 := Lib.hid (((Mut.refl B w).drew).trans m2)
    have R2 := Lib.hid r2
    clear m2 r2 c0 c1 c2 ff hw1 hw2
    go_wp2_with (first
      | ((with_reducible refine Rg.plan_pure ?_ ?_ ?_); kernel_rfl; kernel_rfl; intro _ _)
      | ((with_reducible refine Rg.plan_take ?_ ?_ ?_); kernel_rfl; kernel_rfl; intro _ _)
      | ((with_reducible refine Rg.plan_keep ?_ ?_); kernel_rfl; intro K hK)
      | (refine hK _ _ (Rg.Keep.refl _) ?_; clear hK)
      | (refine hK _ _ (Rg.Keep.of_below (by assumption)) ?_; clear hK)
      | ((with_reducible refine Rg.plan_skip ?_ ?_); kernel_rfl)
      | (with_reducible refine Rg.plan_done ?_)
      | (with_reducible refine Rg.calm_normal ?_))
    go_ret
    exact ⟨_, rfl, World.ownsRow_nil _ _ _ _, M2.out, R2.out⟩
  have hq := HQ.out
  rw [rtake_ok (by omega)] at hq
  obtain ⟨T, hT⟩ : ∃ T, (b.drop at_).take n = T := ⟨_, rfl⟩
  rw [hT] at hq
  have HT := Lib.hid hT
  clear hT
  subst hq
  rw [decide_eq_false hsh, rfail_ok]
  rintro e w2 ⟨rfl, m2, r2⟩
  clear c0 c1 c2 ff hw1 hw2
  obtain ⟨c0, c1, c2, ff⟩ := rs_cells r2
  simp only [] at c1
  have hnl : n ≤ 1000000 := by omega
  have hw3 : wrap64 ((n : Nat) : Int) = (n : Nat) := by unfold wrap64; omega
  have hw4 : wrap64 ((at_ : Int) + (n : Int)) = (at_ : Int) + (n : Int) := by unfold wrap64; omega
  have M2 := Lib.hid (((Mut.refl B w).drew).trans m2)
  have R2 := Lib.hid r2
  clear m2 r2
  go_wp2_with (first
    | ((with_reducible refine Rg.plan_pure ?_ ?_ ?_); kernel_rfl; kernel_rfl; intro _ _)
    | ((with_reducible refine Rg.plan_take ?_ ?_ ?_); kernel_rfl; kernel_rfl; intro _ _)
    | ((with_reducible refine Rg.plan_keep ?_ ?_); kernel_rfl; intro K hK)
    | (refine hK _ _ (Rg.Keep.refl _) ?_; clear hK)
    | (refine hK _ _ (Rg.Keep.of_below (by assumption)) ?_; clear hK)
    | ((with_reducible refine Rg.plan_skip ?_ ?_); kernel_rfl)
    | (with_reducible refine Rg.plan_done ?_)
    | (with_reducible refine Rg.calm_normal ?_))
  have m3 : Mut B w2 (w2.setCell ⟨B, 1, none⟩ (.int .i64 ((at_ : Int) + (n : Int)))) := (Mut.refl _ _).setCell _ _ _
  have r3 : RS b w0 (.slice ao b.length cap) B (w2.setCell ⟨B, 1, none⟩ (.int .i64 ((at_ : Int) + (n : Int)))) (at_ + n, 0) := R2.out.mut m3 (by rw [row?_setCell_eq R2.out.row, ← Int.natCast_add]; rfl) (by show at_ + n ≤ b.length; omega)
  clear c0 c1 c2 ff
  generalize (w2.setCell ⟨B, 1, none⟩ (.int .i64 ((at_ : Int) + (n : Int)))) = w3 at m3 r3 ⊢
  obtain ⟨c0, c1, c2, ff⟩ := rs_cells r3
  simp only [Int.natCast_add] at c1
  have hw5 : wrap64 ((at_ : Int) + (n : Int) - (n : Int)) = (at_ : Int) := by unfold wrap64; omega
  have hcut : ∀ W, (Instr.sliceAt 25 (.slice ao b.length cap) (some (.int .i64 (at_ : Nat))) (some (.int .i64 ((at_ : Int) + n))) none).run Try.prog W = .ok (.slice (cutA ao at_ cap) n (cap - at_)) W := fun W => by
    rw [show ((at_ : Int) + n) = ((at_ + n : Nat) : Int) from rfl, cut_lh TB W _ _ _ _ _ _ _ (by omega) (by omega) (by omega), Int.toNat_natCast, Int.toNat_natCast, Nat.add_sub_cancel_left]
  have hsc := r3.sl.cut at_ (at_ + n) (by omega) (by omega)
  rw [Nat.add_sub_cancel_left, List.drop_take, Nat.add_sub_cancel_left] at hsc
  have hln : ((b.drop at_).take n).length = n := by rw [List.length_take, List.length_drop]; omega
  rw [HT.out] at hsc hln
  have M3 := Lib.hid (M2.out.trans m3)
  have R3 := Lib.hid r3
  have SC := Lib.hid hsc
  have HLN := Lib.hid hln
  clear m3 r3 hsc M2 R2 HR hw4 hln
  refine Rg.wp_region_plan (Rg.row [(0, 3), (1, 3), (2, 3), (3, 0), (4, 3), (5, 3), (6, 3), (7, 0), (8, 3), (9, 3), (10, 3), (11, 3), (12, 3), (13, 3), (14, 0), (15, 3), (16, 1), (17, 3)] []) [] (by kernel_rfl) (by kernel_rfl) ?_
  simp only [Rg.row, Rg.PT.map, List.map_nil, List.getD_cons_zero, List.getD_cons_succ]
  go_wp2_with (first
    | (with_reducible refine Rg.hold_plan 45 1 ?_)
    | ((with_reducible refine Rg.plan_pure ?_ ?_ ?_); kernel_rfl; kernel_rfl; intro _ _)
    | ((with_reducible refine Rg.plan_take ?_ ?_ ?_); kernel_rfl; kernel_rfl; intro _ _)
    | ((with_reducible refine Rg.plan_keep ?_ ?_); kernel_rfl; intro K hK)
    | (refine hK _ _ (Rg.Keep.refl _) ?_; clear hK)
    | (refine hK _ _ (Rg.Keep.of_below (by assumption)) ?_; clear hK)
    | ((with_reducible refine Rg.plan_skip ?_ ?_); kernel_rfl)
    | (with_reducible refine Rg.plan_done ?_)
    | (with_reducible refine Rg.calm_normal ?_))
  refine Rw.Held.mk ?_
  refine Rg.plan_app0 (v := .slice (cutA ao at_ cap) n (cap - at_)) (l := T) 45 rfl (.tmp 44) rfl (by kernel_rfl) Try.underlying25 hi0 hz0 hz1 hz2 (by kernel_rfl) (SC.out.below R3.out.bel.drew) (by have := HLN.out; omega) ?_
  intro v4 w4 o4 b4
  have m4 : Mut B w w4 := M3.out.drew.trans (Mut.of_below b4)
  have R4 := Lib.hid ((RSdrew R3.out).mut (Mut.of_below b4) (by rw [row?_below b4 (row?_lt R3.out.row)]; exact R3.out.row) R3.out.at_)
  have O4 := Lib.hid (own_lower o4 M3.out.drew.size)
  clear o4 b4 c0 c1 c2 ff hw3 hw5 hcut
  go_wp2_with (first
    | ((with_reducible refine Rg.plan_pure ?_ ?_ ?_); kernel_rfl; kernel_rfl; intro _ _)
    | ((with_reducible refine Rg.plan_take ?_ ?_ ?_); kernel_rfl; kernel_rfl; intro _ _)
    | ((with_reducible refine Rg.plan_keep ?_ ?_); kernel_rfl; intro K hK)
    | (refine hK _ _ (Rg.Keep.refl _) ?_; clear hK)
    | (refine hK _ _ (Rg.Keep.of_below (by assumption)) ?_; clear hK)
    | ((with_reducible refine Rg.plan_skip ?_ ?_); kernel_rfl)
    | (with_reducible refine Rg.plan_done ?_)
    | (with_reducible refine Rg.calm_normal ?_))
  go_ret
  exact ⟨_, rfl, O4.out, m4, R4.out⟩
theorem fzero_any (b : List UInt8) (w0 : World) (vb : Value) (B : Nat) (w : World) (s : Nat × Int) (hr : RS b w0 vb B w s) :
    Calls Try.prog 68 #[.pointer (some ⟨B, 0, none⟩)] w fun e w' => e = .returned (.tuple #[]) ∧ Mut B w w' ∧ RS b w0 vb B w' (rzero b s) := by
  have hn := fnum_any b w0 vb B w s hr
  unfold rzero
  generalize rvar b s = q at *
  obtain ⟨s1, n⟩ := q
  have HN := Lib.hid hn
  clear hn hr
  go_enter Try.func68, Try.ntmps68
  go_wp2_with fail
  refine HN.out.mono ?_
  rintro e w1 ⟨rfl, m1, r1⟩
  have M1 := Lib.hid m1
  have R1 := Lib.hid r1
  clear m1 r1 HN
  simp only []
  go_wp2_with fail
  refine (ffail_any b w0 vb B w1 s1 _ 5 R1.out).mono ?_
  rintro e w2 ⟨rfl, m2, r2⟩
  have M2 := Lib.hid (M1.out.trans m2)
  have R2 := Lib.hid r2
  clear m2 r2
  go_wp2_with fail
  go_end0
  have eb : ((n : Int) != 0) = decide (n ≠ 0) := by rw [Bool.eq_iff_iff]; simp
  exact ⟨rfl, M2.out, eb ▸ R2.out⟩
end Go.Proofs.Ytipniobgijdlkaa
end
