/- LibFl; ShaM; ShaW1; ShaW2. -/
import Derived.Test.YthjbmggpleliaaaGreatDoorMhb27
import Derived.Test.YthjbmggpleliaaaGreatDoorMhb1
import Derived.Test.YthjbmggpleliaaaGreatDoorMhb3
import Derived.RegionTactic
import Derived.BigRegion
section
namespace Go.Rg
open Go Go.RowKit Go.Rw
variable {P : Program}
theorem ph_callD {ops : Array Oper} {R : List Flo} {a0 : Act} {w0 : World} (i : Nat) (d : Tmp) (deps : List Nat) (J : Value → World → Prop) {f : FuncId} {xs : Array Operand} {ts : Array TypeId} {args : (Nat → Value) → Array Value}
  (hcf : ∀ args w, (callFunc f args).run P w = .ok (.enter f args) w) (ho : (ops.toList.getD i default).op = .call { callee := .value (.func f), args := xs, argTypes := ts }) (hd : (ops.toList.getD i default).dst = some d)
  (ha : ∀ us, xs.map (puts us R a0).eval = args us)
  (hc : ∀ us w, Below w0.heap.size w0 w → (∀ r' ∈ R, r'.i ∈ deps → r'.J (us r'.i) w) → Calls P f (args us) w fun e w' => ∃ v, e = .returned v ∧ J v w' ∧ Below w.heap.size w w') : ExecOk P ops R a0 w0 ⟨i, d, deps, false, J⟩ := by
 intro us w hb hdep K hK
 show (ops.toList.getD i default).wp P (puts us R a0) w K NoQ
 refine exec_fun hcf ho (ha us) (hc us w hb hdep) ?_
 rintro e w' ⟨v, rfl, hj, hb'⟩
 refine ⟨v, rfl, ?_⟩
 rw [hd]
 exact hK v _ w' rfl hj hb' (fun h => by cases h)
theorem ph_un {ops : Array Oper} {R : List Flo} {a0 : Act} {w0 : World} (i : Nat) (d : Tmp) (k : Nat) {op : Op} {x : Operand} (Jk J : Value → World → Prop) (hd : (ops.toList.getD i default).dst = some d)
  (ho : (ops.toList.getD i default).op = op) (ha : ∀ us, (puts us R a0).eval x = us k) (rk : Flo) (hrk : rk ∈ R) (hi : rk.i = k) (hJ : rk.J = Jk)
  (hc : ∀ (o : Oper) (ρ : Operand → Value) v w, o.op = op → ρ x = v → Jk v w → ∃ u, (execOp ρ o).run P w = .ok (.value u) w ∧ J u w) : ExecOk P ops R a0 w0 ⟨i, d, [k], false, J⟩ := by
 refine ph_gen i d [k] false J hd w0.heap.size (Nat.le_refl _) fun us w _ hdep => ?_
 have h := hdep rk hrk (by rw [hi]; simp)
 rw [hJ, hi] at h
 obtain ⟨u, h1, h2⟩ := hc _ _ _ _ ho (ha us) h
 exact ⟨u, w, h1, h2, Below.refl _ _, fun h => by cases h⟩
end Go.Rg

end
section
namespace Go.Rw
open Go Go.RowKit
def qi (l : List Int) (i : Nat) : Int := l[i]?.getD 0
def qv (x : Int) : Value := .int .u32 x
def qs (l : List Int) : Array Value := (l.map qv).toArray
@[go_sem] theorem qs_size (l : List Int) : (qs l).size = l.length := by simp [qs]
theorem oneCell_qv (x : Int) : (qv x).oneCell' = true := rfl
@[go_sem] theorem qs_all (l : List Int) : allOne (qs l) = true := by
 simp [allOne, qs, oneCell_qv]
theorem qs_getElem? (l : List Int) (k : Nat) : (qs l)[k]? = if k < l.length then some (.int .u32 (qi l k)) else none := by
 by_cases h : k < l.length
 ·rw [if_pos h]; simp [qi, qs, qv, h]
 ·rw [if_neg h]; simp [qs]; omega
theorem qs_set (l : List Int) (k : Nat) (x : Int) : (qs l).setIfInBounds k (.int .u32 x) = qs (l.set k x) := by
 simp [qs, qv, List.map_set]
end Go.Rw
namespace Go.Proofs.YthjbmggpleliaaaGreatDoor
open Go.RowKit Go.Rw Aes
theorem Ag8w : Agg Tryz.prog 247 8 := ⟨⟨_, Tryz.underlying247, rfl⟩, by kernel_rfl⟩
theorem ld8w (x : Value) : Instr.loadAt 247 x = loadAgg 247 x := rfl
theorem st8w (x y : Value) : Instr.storeAt 247 x y = storeAgg 247 x y := rfl
theorem al8w : Instr.alloc 247 true (.tuple #[]) = allocAgg 247 := rfl
theorem rld8w (w : World) (b : Nat) (h : (row? w b).map (·.size) = some 8) : (loadAgg 247 (.pointer (some ⟨b, 0, none⟩))).run Tryz.prog w = .ok (.agg ((row? w b).getD #[])) w := load_rule Ag8w w b h
theorem rst8w (w : World) (b : Nat) (c' : Array Value) (h : (row? w b).map (·.size) = some 8) (hn : c'.size = 8) (h1 : allOne c' = true) : (storeAgg 247 (.pointer (some ⟨b, 0, none⟩)) (.agg c')).run Tryz.prog w = .ok () (w.setRow b c') := store_rule Ag8w w b c' h hn h1
theorem ral8w (w : World) : (allocAgg 247).run Tryz.prog w = .ok (.pointer (some ⟨w.heap.size, 0, none⟩)) (w.alloc (.cells (qs (List.replicate 8 0)) 247)) := alloc_rule (n := 8) (by kernel_rfl) w
theorem Ag64w : Agg Tryz.prog 273 64 := ⟨⟨_, Tryz.underlying273, rfl⟩, by kernel_rfl⟩
theorem ld64w (x : Value) : Instr.loadAt 273 x = loadAgg 273 x := rfl
theorem st64w (x y : Value) : Instr.storeAt 273 x y = storeAgg 273 x y := rfl
theorem al64w : Instr.alloc 273 true (.tuple #[]) = allocAgg 273 := rfl
theorem rld64w (w : World) (b : Nat) (h : (row? w b).map (·.size) = some 64) : (loadAgg 273 (.pointer (some ⟨b, 0, none⟩))).run Tryz.prog w = .ok (.agg ((row? w b).getD #[])) w := load_rule Ag64w w b h
theorem rst64w (w : World) (b : Nat) (c' : Array Value) (h : (row? w b).map (·.size) = some 64) (hn : c'.size = 64) (h1 : allOne c' = true) : (storeAgg 273 (.pointer (some ⟨b, 0, none⟩)) (.agg c')).run Tryz.prog w = .ok () (w.setRow b c') := store_rule Ag64w w b c' h hn h1
theorem ral64w (w : World) : (allocAgg 273).run Tryz.prog w = .ok (.pointer (some ⟨w.heap.size, 0, none⟩)) (w.alloc (.cells (qs (List.replicate 64 0)) 273)) := alloc_rule (n := 64) (by kernel_rfl) w
theorem Ag64b : Agg Tryz.prog 249 64 := ⟨⟨_, Tryz.underlying249, rfl⟩, by kernel_rfl⟩
theorem ld64b (x : Value) : Instr.loadAt 249 x = loadAgg 249 x := rfl
theorem st64b (x y : Value) : Instr.storeAt 249 x y = storeAgg 249 x y := rfl
theorem al64b : Instr.alloc 249 true (.tuple #[]) = allocAgg 249 := rfl
theorem rld64b (w : World) (b : Nat) (h : (row? w b).map (·.size) = some 64) : (loadAgg 249 (.pointer (some ⟨b, 0, none⟩))).run Tryz.prog w = .ok (.agg ((row? w b).getD #[])) w := load_rule Ag64b w b h
theorem rst64b (w : World) (b : Nat) (c' : Array Value) (h : (row? w b).map (·.size) = some 64) (hn : c'.size = 64) (h1 : allOne c' = true) : (storeAgg 249 (.pointer (some ⟨b, 0, none⟩)) (.agg c')).run Tryz.prog w = .ok () (w.setRow b c') := store_rule Ag64b w b c' h hn h1
theorem ral64b (w : World) : (allocAgg 249).run Tryz.prog w = .ok (.pointer (some ⟨w.heap.size, 0, none⟩)) (w.alloc (.cells (bvs (zeros 64)) 249)) := alloc_rule (n := 64) (by kernel_rfl) w
theorem Ag32b : Agg Tryz.prog 163 32 := ⟨⟨_, Tryz.underlying163, rfl⟩, by kernel_rfl⟩
theorem ld32b (x : Value) : Instr.loadAt 163 x = loadAgg 163 x := rfl
theorem st32b (x y : Value) : Instr.storeAt 163 x y = storeAgg 163 x y := rfl
theorem al32b : Instr.alloc 163 true (.tuple #[]) = allocAgg 163 := rfl
theorem rld32b (w : World) (b : Nat) (h : (row? w b).map (·.size) = some 32) : (loadAgg 163 (.pointer (some ⟨b, 0, none⟩))).run Tryz.prog w = .ok (.agg ((row? w b).getD #[])) w := load_rule Ag32b w b h
theorem rst32b (w : World) (b : Nat) (c' : Array Value) (h : (row? w b).map (·.size) = some 32) (hn : c'.size = 32) (h1 : allOne c' = true) : (storeAgg 163 (.pointer (some ⟨b, 0, none⟩)) (.agg c')).run Tryz.prog w = .ok () (w.setRow b c') := store_rule Ag32b w b c' h hn h1
theorem ral32b (w : World) : (allocAgg 163).run Tryz.prog w = .ok (.pointer (some ⟨w.heap.size, 0, none⟩)) (w.alloc (.cells (bvs (zeros 32)) 163)) := alloc_rule (n := 32) (by kernel_rfl) w
end Go.Proofs.YthjbmggpleliaaaGreatDoor

end
section
namespace Go.Proofs.YthjbmggpleliaaaGreatDoor
open Go.RowKit Go.Rw Aes
set_option maxRecDepth 100000 in
set_option maxHeartbeats 1000000 in
theorem rot_any (x : Int) (k : Int) (hk : k ∈ ([-2, -6, -7, -11, -13, -17, -18, -19, -22, -25] : List Int)) (w : World) :
  Calls Tryz.prog 180 #[.int .u32 x, .int .i64 k] w fun e w' => (∃ z, e = .returned (.int .u32 z)) ∧ w = w' := by
 simp only [List.mem_cons, List.not_mem_nil, or_false] at hk
 rcases hk with rfl | rfl | rfl | rfl | rfl | rfl | rfl | rfl | rfl | rfl
 all_goals
  go_enter Tryz.func180, Tryz.ntmps180
  go_wp2_with fail
  go_ret
  exact ⟨⟨_, rfl⟩, rfl⟩
set_option maxRecDepth 100000 in
set_option maxHeartbeats 1000000 in
theorem right_any (x : Int) (k : Nat) (hk : k ∈ ([2, 6, 7, 11, 13, 17, 18, 19, 22, 25] : List Nat)) (w : World) :
  Calls Tryz.prog 165 #[.int .u32 x, .int .i64 (k : Nat)] w fun e w' => (∃ z, e = .returned (.int .u32 z)) ∧ w = w' := by
 have hm : -(k : Int) ∈ ([-2, -6, -7, -11, -13, -17, -18, -19, -22, -25] : List Int) := by
  simp only [List.mem_cons, List.not_mem_nil, or_false] at hk ⊢
  omega
 have hw : wrap64 (-(k : Int)) = -(k : Int) := IntWalk.wrap64_in _ (by simp only [List.mem_cons, List.not_mem_nil, or_false] at hk; omega)
 have HR := Lib.hid (rot_any x (-(k : Int)) hm w)
 clear hk hm
 go_enter Tryz.func165, Tryz.ntmps165
 go_wp2_with fail
 refine HR.out.mono ?_
 rintro e w1 ⟨⟨z, rfl⟩, rfl⟩
 go_wp2_with fail
 go_ret
 exact ⟨⟨_, rfl⟩, rfl⟩
end Go.Proofs.YthjbmggpleliaaaGreatDoor

end
section
namespace Go.Proofs.YthjbmggpleliaaaGreatDoor
open Go.RowKit Go.Rw Aes
attribute [local go_sem ↓] ld64w st64w al64w ld64b st64b al64b bvs_getElem? qs_getElem?
attribute [local go_sem] rld64w rst64w ral64w rld64b rst64b ral64b setRow_alloc_at setRow_alloc_past setRow_drew
set_option maxRecDepth 100000 in
set_option maxHeartbeats 2000000 in
theorem schedule_any (b : List UInt8) (hb : b.length = 64) (w : World) :
  Calls Tryz.prog 164 #[.agg (bvs b)] w fun e w' => (∃ l, l.length = 64 ∧ e = .returned (.agg (qs l))) ∧ Below w.heap.size w w' := by
 have hbs : (bvs b).size = 64 := by rw [bvs_size, hb]
 have HB := Lib.hid hb
 clear hb
 go_enter Tryz.func164, Tryz.ntmps164
 go_wp2_with fail
 go_loopw [3, 5, 9] (fun _ _ v wr => ∃ (k : Nat) (l : List Int), k ≤ 16 ∧ l.length = 64 ∧ v = .int .i64 (k : Nat) ∧ row? wr w.heap.size = some (bvs b) ∧ row? wr (w.heap.size + 1) = some (qs l) ∧ Below w.heap.size w wr) (fun _ _ v _ => 16 - (intOf v).toNat)
 case atStart =>
  refine ⟨0, List.replicate 64 0, by omega, by simp, rfl, ?_, row?_alloc_at _ _ _ _ (by simp), bel2 w _ _⟩
  rw [row?_alloc_past _ _ _ (by simp)]; exact row?_alloc_at _ _ _ _ rfl
 case round =>
  obtain ⟨k, l, hk, hl, rfl, hr0, hr1, hbw⟩ := hrel
  by_cases hk16 : k < 16
  case neg =>
   have p1 : decide ((k : Int) < 16) = false := decide_eq_false (by omega)
   have HH := Lib.hid (And.intro hr0 (And.intro hr1 (And.intro hbw hl)))
   clear hr0 hr1 hbw hk hl hbs
   go_wp2_with fail
   go_loopw [6, 7, 8] (fun v _ _ wr => ∃ (k : Nat) (l : List Int), 16 ≤ k ∧ k ≤ 64 ∧ l.length = 64 ∧ v = .int .i64 (k : Nat) ∧ row? wr (w.heap.size + 1) = some (qs l) ∧ Below w.heap.size w wr) (fun v _ _ _ => 64 - (intOf v).toNat)
   case atStart => exact ⟨16, l, by omega, by omega, HH.out.2.2.2, rfl, HH.out.2.1, HH.out.2.2.1⟩
   case round =>
    obtain ⟨k, l, hk0, hk, hl, rfl, hr1, hbw⟩ := hrel
    by_cases hk64 : k < 64
    case neg =>
     have p1 : decide ((k : Int) < 64) = false := decide_eq_false (by omega)
     have HH := Lib.hid (And.intro hr1 (And.intro hbw hl))
     have lx := rld64w wr (w.heap.size + 1) (by rw [hr1, Option.map_some, qs_size, hl])
     rw [hr1, Option.getD_some] at lx
     have ls : (qs l).size = 64 := by rw [qs_size, hl]
     have sx := rst64w wr (w.heap.size + 1) (qs l) (by rw [hr1, Option.map_some, ls]) ls (qs_all l)
     clear hr1 hbw hl hk hk0
     go_wp2_with fail
     refine bodyPost_ret (results_row Ag64w rfl _ _ (w.heap.size + 1) (qs l) rfl ?_ ls) rfl ?_
     ·exact row?_setRow_eq HH.out.1
     ·exact ⟨⟨l, HH.out.2.2, rfl⟩, below_setRow HH.out.2.1 (by omega) _⟩
    have p1 : decide ((k : Int) < 64) = true := decide_eq_true (by omega)
    have cel : ∀ j : Nat, j < 64 → wr.cell? ⟨w.heap.size + 1, j, none⟩ = some (.int .u32 (qi l j)) := fun j hj => by rw [row?_cell hr1, qs_getElem?, if_pos (by omega)]
    obtain ⟨a, ha⟩ : ∃ a : Nat, k - 15 = a := ⟨_, rfl⟩
    obtain ⟨b', hb'⟩ : ∃ b' : Nat, k - 2 = b' := ⟨_, rfl⟩
    obtain ⟨c, hc⟩ : ∃ c : Nat, k - 16 = c := ⟨_, rfl⟩
    obtain ⟨d, hd⟩ : ∃ d : Nat, k - 7 = d := ⟨_, rfl⟩
    have q : (k : Int) - 15 = (a : Nat) ∧ (k : Int) - 2 = (b' : Nat) ∧ (k : Int) - 16 = (c : Nat) ∧ (k : Int) - 7 = (d : Nat) := by omega
    have q2 : a < 64 ∧ b' < 64 ∧ c < 64 ∧ d < 64 := by omega
    have e1 := wrap_nat q.1 (by omega)
    have ca := cel a q2.1
    have cb := cel b' q2.2.1
    have cc := cel c q2.2.2.1
    have cd := cel d q2.2.2.2
    have ck := cel k hk64
    have fk := row?_frozen hr1 k
    clear e1
    have e1 := wrap_nat q.1 (by omega)
    have HQ := Lib.hid q
    have e2 := wrap_nat HQ.out.2.1 (by clear e1; omega)
    have e3 := wrap_nat HQ.out.2.2.1 (by clear e1 e2; omega)
    have e4 := wrap_nat HQ.out.2.2.2 (by clear e1 e2 e3; omega)
    have HH := Lib.hid (And.intro hr1 (And.intro hbw (And.intro hl (And.intro hk0 hk64))))
    obtain ⟨qa, qb, qc, qd⟩ := q2
    clear hr1 hbw hl hk hk0 cel q ha hb' hc hd hk64
    go_wp2_with fail
    refine Rg.wp_region_plan (Rg.row [(0, 3), (1, 3), (2, 3), (3, 0), (5, 3), (6, 3), (7, 3), (8, 0), (11, 3), (12, 3), (13, 3), (14, 0), (15, 3), (4, 1), (9, 1), (10, 3), (16, 3), (17, 3)] []) [] (by kernel_rfl) (by kernel_rfl) ?_
    simp only [Rg.row, Rg.PT.map, List.map_nil, List.getD_cons_zero, List.getD_cons_succ]
    go_wp2_with (first
     |(with_reducible refine Rg.plan_pure ?_ ?_ ?_); kernel_rfl; kernel_rfl; intro _ _|(with_reducible refine Rg.plan_take ?_ ?_ ?_); kernel_rfl; kernel_rfl; intro _ _|(with_reducible refine Rg.plan_keep ?_ ?_); kernel_rfl; intro K hK|refine hK _ _ (Rg.Keep.refl _) ?_; clear hK|refine hK _ _ (Rg.Keep.of_below (by assumption)) ?_; clear hK|(with_reducible refine Rg.plan_skip ?_ ?_); kernel_rfl|(with_reducible refine Rg.plan_done ?_)|(with_reducible refine Rg.calm_normal ?_))
    refine (right_any _ 7 (by decide) _).mono ?_
    rintro e w2 ⟨⟨z1, rfl⟩, rfl⟩
    refine hK _ _ (Rg.Keep.refl _) ?_
    clear hK
    go_wp2_with (first
     |(with_reducible refine Rg.plan_pure ?_ ?_ ?_); kernel_rfl; kernel_rfl; intro _ _|(with_reducible refine Rg.plan_take ?_ ?_ ?_); kernel_rfl; kernel_rfl; intro _ _|(with_reducible refine Rg.plan_keep ?_ ?_); kernel_rfl; intro K hK|refine hK _ _ (Rg.Keep.refl _) ?_; clear hK|refine hK _ _ (Rg.Keep.of_below (by assumption)) ?_; clear hK|(with_reducible refine Rg.plan_skip ?_ ?_); kernel_rfl|(with_reducible refine Rg.plan_done ?_)|(with_reducible refine Rg.calm_normal ?_))
    refine (right_any _ 18 (by decide) _).mono ?_
    rintro e w3 ⟨⟨z2, rfl⟩, rfl⟩
    refine hK _ _ (Rg.Keep.refl _) ?_
    clear hK
    go_wp2_with (first
     |(with_reducible refine Rg.plan_pure ?_ ?_ ?_); kernel_rfl; kernel_rfl; intro _ _|(with_reducible refine Rg.plan_take ?_ ?_ ?_); kernel_rfl; kernel_rfl; intro _ _|(with_reducible refine Rg.plan_keep ?_ ?_); kernel_rfl; intro K hK|refine hK _ _ (Rg.Keep.refl _) ?_; clear hK|refine hK _ _ (Rg.Keep.of_below (by assumption)) ?_; clear hK|(with_reducible refine Rg.plan_skip ?_ ?_); kernel_rfl|(with_reducible refine Rg.plan_done ?_)|(with_reducible refine Rg.calm_normal ?_))
    refine Rg.wp_region_plan (Rg.row [(0, 3), (1, 3), (2, 3), (3, 0), (5, 3), (6, 3), (7, 3), (8, 0), (11, 3), (12, 3), (13, 3), (14, 0), (15, 3), (4, 1), (9, 1), (10, 3), (16, 3), (17, 3)] []) [] (by kernel_rfl) (by kernel_rfl) ?_
    simp only [Rg.row, Rg.PT.map, List.map_nil, List.getD_cons_zero, List.getD_cons_succ]
    go_wp2_with (first
     |(with_reducible refine Rg.plan_pure ?_ ?_ ?_); kernel_rfl; kernel_rfl; intro _ _|(with_reducible refine Rg.plan_take ?_ ?_ ?_); kernel_rfl; kernel_rfl; intro _ _|(with_reducible refine Rg.plan_keep ?_ ?_); kernel_rfl; intro K hK|refine hK _ _ (Rg.Keep.refl _) ?_; clear hK|refine hK _ _ (Rg.Keep.of_below (by assumption)) ?_; clear hK|(with_reducible refine Rg.plan_skip ?_ ?_); kernel_rfl|(with_reducible refine Rg.plan_done ?_)|(with_reducible refine Rg.calm_normal ?_))
    refine (right_any _ 17 (by decide) _).mono ?_
    rintro e w4 ⟨⟨z3, rfl⟩, rfl⟩
    refine hK _ _ (Rg.Keep.refl _) ?_
    clear hK
    go_wp2_with (first
     |(with_reducible refine Rg.plan_pure ?_ ?_ ?_); kernel_rfl; kernel_rfl; intro _ _|(with_reducible refine Rg.plan_take ?_ ?_ ?_); kernel_rfl; kernel_rfl; intro _ _|(with_reducible refine Rg.plan_keep ?_ ?_); kernel_rfl; intro K hK|refine hK _ _ (Rg.Keep.refl _) ?_; clear hK|refine hK _ _ (Rg.Keep.of_below (by assumption)) ?_; clear hK|(with_reducible refine Rg.plan_skip ?_ ?_); kernel_rfl|(with_reducible refine Rg.plan_done ?_)|(with_reducible refine Rg.calm_normal ?_))
    refine (right_any _ 19 (by decide) _).mono ?_
    rintro e w5 ⟨⟨z4, rfl⟩, rfl⟩
    refine hK _ _ (Rg.Keep.refl _) ?_
    clear hK
    go_wp2_with (first
     |(with_reducible refine Rg.plan_pure ?_ ?_ ?_); kernel_rfl; kernel_rfl; intro _ _|(with_reducible refine Rg.plan_take ?_ ?_ ?_); kernel_rfl; kernel_rfl; intro _ _|(with_reducible refine Rg.plan_keep ?_ ?_); kernel_rfl; intro K hK|refine hK _ _ (Rg.Keep.refl _) ?_; clear hK|refine hK _ _ (Rg.Keep.of_below (by assumption)) ?_; clear hK|(with_reducible refine Rg.plan_skip ?_ ?_); kernel_rfl|(with_reducible refine Rg.plan_done ?_)|(with_reducible refine Rg.calm_normal ?_))
    refine Rg.wp_region_plan (Rg.row [(0, 3), (1, 3), (2, 3), (3, 3), (4, 0), (5, 3), (6, 3), (7, 3), (8, 3), (9, 3), (10, 0), (11, 3), (12, 3), (13, 3), (14, 3)] [15]) [15] (by kernel_rfl) (by kernel_rfl) ?_
    simp only [Rg.row, Rg.PT.map, List.map_cons, List.map_nil, List.getD_cons_zero, List.getD_cons_succ]
    go_wp2_with (first
     |(with_reducible refine Rg.plan_pure ?_ ?_ ?_); kernel_rfl; kernel_rfl; intro _ _|(with_reducible refine Rg.plan_take ?_ ?_ ?_); kernel_rfl; kernel_rfl; intro _ _|(with_reducible refine Rg.plan_keep ?_ ?_); kernel_rfl; intro K hK|refine hK _ _ (Rg.Keep.refl _) ?_; clear hK|refine hK _ _ (Rg.Keep.of_below (by assumption)) ?_; clear hK|(with_reducible refine Rg.plan_skip ?_ ?_); kernel_rfl|(with_reducible refine Rg.plan_done ?_)|(with_reducible refine Rg.calm_normal ?_))
    all_goals have hk64 := HH.out.2.2.2.2
    all_goals clear e1 e2 e3 e4
    rotate_left
    ·exfalso; omega
    exact ⟨⟨k + 1, l.set k _, by have := HH.out; omega, by omega, by simpa using HH.out.2.2.1, by push_cast; rfl, (row?_drew _ _).trans ((row?_setCell_eq HH.out.1 _).trans (congrArg some (qs_set _ _ _))), (HH.out.2.1.setCell (p := ⟨w.heap.size + 1, k, none⟩) (by simp) _).drew.drew.drew⟩, meas_up hk64 rfl⟩
  have p1 : decide ((k : Int) < 16) = true := decide_eq_true (by omega)
  have hcut : (Instr.sliceAt 249 (.pointer (some ⟨w.heap.size, 0, none⟩)) (some (.int .i64 (4 * (k : Int)))) (some (.int .i64 (4 * (k : Int) + 4))) none).run Tryz.prog wr = .ok (.slice (some ⟨w.heap.size, 4 * k, none⟩) 4 (64 - 4 * k)) wr := by
   rw [run_sliceAt_array_lh wr 249 ⟨w.heap.size, 0, none⟩ (by kernel_rfl) .i64 .i64 _ _ (by omega) (by omega) (by rw [show (Tryz.prog.arrayLen 249 : Nat) = 64 by kernel_rfl]; omega)]
   rw [show (sizeOf (Tryz.prog.elem 249)).run Tryz.prog wr = .ok 1 wr by kernel_rfl, show (Tryz.prog.arrayLen 249 : Nat) = 64 by kernel_rfl, Result.andThen_ok]
   unfold slicedAt
   rw [if_neg (by omega), show (4 * (k : Int) + 4).toNat - (4 * (k : Int)).toNat = 4 by omega, show (4 * (k : Int)).toNat = 4 * k by omega]
   simp [Addr.add_lit]
  obtain ⟨a, ha⟩ : ∃ a : Nat, 4 * k = a := ⟨_, rfl⟩
  obtain ⟨ca, hca⟩ : ∃ ca : Nat, 64 - 4 * k = ca := ⟨_, rfl⟩
  rw [ha] at hcut
  have hcb : a + 4 ≤ 64 := by omega
  rw [← ha, hca, ha] at hcut
  have HA := Lib.hid hcb
  have HH := Lib.hid (And.intro hr0 (And.intro hr1 (And.intro hbw (And.intro hl hk16))))
  clear hr0 hr1 hbw hl hk hcb ha hca
  go_wp2_with fail
  go_loopw [5, 19] (fun _ v wr => ∃ (j : Nat) (l : List Int), j ≤ 4 ∧ l.length = 64 ∧ v = .int .i64 (j : Nat) ∧ row? wr w.heap.size = some (bvs b) ∧ row? wr (w.heap.size + 1) = some (qs l) ∧ Below w.heap.size w wr) (fun _ v _ => 4 - (intOf v).toNat)
  case atStart => exact ⟨0, l, by omega, HH.out.2.2.2.1, rfl, HH.out.1, HH.out.2.1, HH.out.2.2.1⟩
  case round =>
   obtain ⟨j, l2, hj, hl2, rfl, s0, s1, sb⟩ := hrel
   by_cases hj4 : j < 4
   case neg =>
    have p1 : decide ((j : Int) < 4) = false := decide_eq_false (by omega)
    have GG := Lib.hid (And.intro s0 (And.intro s1 (And.intro sb hl2)))
    clear s0 s1 sb hl2 hcut
    go_wp2_with fail
    exact ⟨⟨k + 1, l2, by have := HH.out; omega, GG.out.2.2.2, by push_cast; rfl, GG.out.1, GG.out.2.1, GG.out.2.2.1⟩, meas_up HH.out.2.2.2.2 rfl⟩
   have p1 : decide ((j : Int) < 4) = true := decide_eq_true (by omega)
   have c0 : wr.cell? ⟨w.heap.size, a + j, none⟩ = some (.int .u8 (n8 (nth b (a + j)) : Nat)) := by rw [row?_cell s0, bvs_getElem?, if_pos (by have := HA.out; have := HB.out; omega)]
   have c1 : wr.cell? ⟨w.heap.size + 1, k, none⟩ = some (.int .u32 (qi l2 k)) := by rw [row?_cell s1, qs_getElem?, if_pos (by omega)]
   have f1 := row?_frozen s1 k
   obtain ⟨x, hx⟩ : ∃ x, nth b (a + j) = x := ⟨_, rfl⟩
   obtain ⟨y, hy⟩ : ∃ y, qi l2 k = y := ⟨_, rfl⟩
   rw [hx] at c0
   rw [hy] at c1
   have GG := Lib.hid (And.intro s0 (And.intro s1 (And.intro sb hl2)))
   clear s0 s1 sb hl2 hcut hj hx hy
   go_wp2_with fail
   refine ⟨⟨j + 1, l2.set k _, by omega, by simpa using GG.out.2.2.2, by push_cast; rfl, ?_, (row?_setCell_eq GG.out.2.1 _).trans (congrArg some (qs_set _ _ _)), GG.out.2.2.1.setCell (p := ⟨w.heap.size + 1, k, none⟩) (by simp) _⟩, meas_up hj4 rfl⟩
   rw [row?_setCell_ne _ _ _ _ (by simp)]; exact GG.out.1
end Go.Proofs.YthjbmggpleliaaaGreatDoor

end
