/- Law; Low; FrmV. -/
import Derived.ProofKit
import Derived.JoinedCond
import Derived.OpenShut
import Derived.OpenVars
import Derived.Test.YtipniobgijdlkaaMgs1
import Derived.Test.YtipniobgijdlkaaRows
import Derived.Test.YtipniobgijdlkaaLibR
import Derived.Test.YtipniobgijdlkaaMgs2
import Derived.Test.YtipniobgijdlkaaMgsLibM
section
/- What closes a law's row: the call answers true and leaves all that stood as it was. Over any program. -/
namespace Go.Law
open Go Go.RowKit Go.ChangeShapes Go.WideShapes Go.ChangeAt Go.Rw

section
variable {P : Program} {H : Type} {enc : TypeId × Value → H}

/-- Each argument reads behind the call as it read before. -/
theorem trodAll_below (hl : laidOutB P = true) {W W' : World} (hb : Below W.heap.size W W') :
    ∀ {ts : List TypeId} {vs : List Value} {ds : List (DataW H)} {ps : List MemPlace}, (ts.all fun t => P.readableRec t && decide (t < P.types.size)) = true →
      DataW.TrodAll enc P W 0 (fun _ => true) true ts vs ds ps → DataW.TrodAll enc P W' 0 (fun b => decide (b < W.heap.size)) true ts vs ds ps
  | [], [], [], _, _, h => h
  | t :: ts, v :: vs, d :: ds, ps, hr, h => by
    have hlt := DataW.TrodAll.lt h
    obtain ⟨p, q, h1, h2, rfl⟩ := h
    simp only [List.all_cons, Bool.and_eq_true, decide_eq_true_eq] at hr
    exact ⟨p, q, Below.trod hl hr.1.1 hr.1.2 h1 hb (fun x hx => hlt x (by simp [hx])), trodAll_below hl hb hr.2 h2, rfl⟩
  | [], [], _ :: _, _, _, h => h.elim
  | [], _ :: _, _, _, _, h => by cases h
  | _ :: _, [], _, _, _, h => by cases h
  | _ :: _, _ :: _, [], _, _, h => h.elim

/-- The post of a law: the answer is true, the arguments are as they were. -/
theorem post_of_law {f : Func} {s : ChangeSpec} {W W' : World} {args : Array Value} {ds gs : List (DataW H)} {before : List MemPlace} {tb : TypeId}
    (hl : laidOutB P = true) (hr : (f.params.toList.all fun t => P.readableRec t && decide (t < P.types.size)) = true)
    (hW : DataW.Whole enc P f.params.toList s.vars false W args.toList ds gs before) (hv : s.vars = []) (hb : Below W.heap.size W W')
    (hf : f.resultTypes = #[tb]) (hu : P.underlying tb = some .bool)
    (h1 : (s.fn H ds).results = [.lit (.bool true)]) (h2 : (s.fn H ds).args = ds) (h3 : (s.fn H ds).vars = []) :
    s.post enc P f false true false false W args (.bool true) W' := by
  have hW' := hW
  obtain ⟨p, q, hA, hV, rfl, hfz, hnd⟩ := hW
  rw [hv] at hV
  obtain ⟨rfl, rfl⟩ := trodVars_none hV
  refine ⟨ds, [], p ++ [], [], p, [], hW', ?_, ?_, ?_, hb.frame _, fun h => by cases h⟩
  · rw [List.append_nil, h1, hf]
    exact trodAll_cons_mk (shut_bool hu true) trodAll_mk0
  · rw [List.append_nil, h2]
    exact trodAll_below hl hb hr hA
  · rw [List.append_nil, h3, hv]; rfl

/-- A row of numbers of one kind, by its own types alone: bytes. -/
theorem open_bytes {w : World} {r : Reach} {base : Nat} {t : TypeId} {n : Nat} {e : TypeId} {v : Value} (hu : P.underlying t = some (.array n e)) (hn : P.cellsOf t = n)
    (hc : ∃ ts, P.cellTypes P.depth t = some ts ∧ ts.all (· == e) = true) (he : P.underlying e = some (.int .u8)) (h : Value.okWide P w r base t v) : ∃ l : List UInt8, l.length = n ∧ v = .agg (bvs l) := by
  simp only [Value.okWide, hu] at h
  obtain ⟨cs, rfl, hsz, ts, hts, _, hcell⟩ := h
  obtain ⟨ts', hts', hall⟩ := hc
  obtain rfl : ts' = ts := Option.some.inj (hts'.symm.trans hts)
  have hv : ∀ (l : List Value), (∀ v ∈ l, ∃ b : UInt8, v = bv b) → ∃ bs : List UInt8, l = bs.map bv := by
    intro l
    induction l with
    | nil => intro _; exact ⟨[], rfl⟩
    | cons v l ih =>
      intro hl
      obtain ⟨b, rfl⟩ := hl v (by simp)
      obtain ⟨bs, rfl⟩ := ih fun v hv => hl v (by simp [hv])
      exact ⟨b :: bs, rfl⟩
  obtain ⟨bs, hbs⟩ := hv cs.toList (by
    intro v hv
    obtain ⟨i, hi⟩ := List.getElem?_of_mem hv
    obtain ⟨u, hu', hok⟩ := hcell i v (by simpa using hi)
    have hue : u = e := by
      have hm := List.mem_of_getElem? hu'
      simpa using List.all_eq_true.1 hall u hm
    subst hue
    have hok2 : Cell.ok P w r base u v := by
      unfold Cell.okWide at hok
      rw [he] at hok
      exact hok
    unfold Cell.ok at hok2
    rw [he] at hok2
    cases v <;> simp at hok2
    rename_i k x
    obtain ⟨rfl, hwf⟩ := hok2
    refine ⟨UInt8.ofInt x, ?_⟩
    have hx : 0 ≤ x ∧ x ≤ 255 := by simpa [IntKind.has, IntKind.min, IntKind.max, IntKind.signed, IntKind.bits] using hwf
    have : (n8 (UInt8.ofInt x) : Int) = x := by
      simp [n8, UInt8.ofInt]; omega
    rw [bv_eq, this])
  refine ⟨bs, ?_, ?_⟩
  · have := congrArg List.length hbs
    simp at this
    omega
  · congr 1
    apply Array.toList_inj.1
    rw [hbs]; simp [bvs]
theorem open_u8 {w : World} {r : Reach} {base : Nat} {t : TypeId} {v : Value} (hu : P.underlying t = some (.int .u8)) (h : Value.okWide P w r base t v) : ∃ b : UInt8, v = .int .u8 (n8 b : Nat) := by
  simp only [Value.okWide, hu, Cell.okWide, Cell.ok] at h
  cases v <;> simp at h
  rename_i k x
  obtain ⟨rfl, hwf⟩ := h
  have hx : 0 ≤ x ∧ x ≤ 255 := by simpa [IntKind.has, IntKind.min, IntKind.max, IntKind.signed, IntKind.bits] using hwf
  refine ⟨UInt8.ofInt x, ?_⟩
  have : (n8 (UInt8.ofInt x) : Int) = x := by simp [n8, UInt8.ofInt]; omega
  rw [this]
theorem open_i64 {w : World} {r : Reach} {base : Nat} {t : TypeId} {v : Value} (hu : P.underlying t = some (.int .i64)) (h : Value.okWide P w r base t v) : ∃ x : Int, v = .int .i64 x ∧ -9223372036854775808 ≤ x ∧ x ≤ 9223372036854775807 := by
  simp only [Value.okWide, hu, Cell.okWide, Cell.ok] at h
  cases v <;> simp at h
  rename_i k x
  obtain ⟨rfl, hwf⟩ := h
  have hx : -9223372036854775808 ≤ x ∧ x ≤ 9223372036854775807 := by simpa [IntKind.has, IntKind.min, IntKind.max, IntKind.signed, IntKind.bits] using hwf
  exact ⟨x, rfl, hx⟩
end
end Go.Law
end
section
/- What the laws share: Low. -/
namespace Go.Proofs.Ytipniobgijdlkaa
open Go.RowKit Go.Rw
/-- A number made small: closed to simp. -/
def low (x : Int) (n : Nat) : Nat := (IntKind.u64.wrap x).toNat % n
theorem low_lt (x : Int) (n : Nat) (h : 0 < n) : low x n < n := Nat.mod_lt _ h
theorem u64_nonneg (x : Int) : 0 ≤ IntKind.u64.wrap x ∧ IntKind.u64.wrap x ≤ 18446744073709551615 := by
  simp [IntKind.wrap, IntKind.bits, IntKind.signed]; omega
set_option maxHeartbeats 400000 in
theorem low_any (x : Int) (n : Nat) (h0 : 0 < n) (h1 : (n : Int) ≤ 9223372036854775807) (w : World) :
    Calls Try.prog 17 #[.int .i64 x, .int .i64 (n : Nat)] w fun e w' => e = .returned (.int .i64 (low x n : Nat)) ∧ w = w' := by
  have e1 : IntKind.u64.wrap (n : Int) = n := IntWalk.u64_in _ (by omega)
  obtain ⟨u, hu⟩ : ∃ u : Nat, IntKind.u64.wrap x = (u : Int) := ⟨(IntKind.u64.wrap x).toNat, by have := (u64_nonneg x).1; omega⟩
  have hl : low x n = u % n := by unfold low; rw [hu]; simp
  have hlt := low_lt x n h0
  have hv : wrap64 ((u : Int) % (n : Int)) = ((low x n : Nat) : Int) := by
    rw [show (u : Int) % (n : Int) = ((low x n : Nat) : Int) by rw [hl]; rfl]
    exact IntWalk.wrap64_in _ (by omega)
  have HV := Lib.hid hv
  clear hv
  have E1 := Lib.hid e1
  clear e1
  have hc1 : ∀ W : World, (Go.convert 3 69 (.int .i64 x)).run Try.prog W = .ok (.int .u64 (u : Nat)) W := fun W => by
    simp [Go.convert, go_sem, Conv.intToInt, hu]
  have hc2 : ∀ W : World, (Go.convert 3 69 (.int .i64 (n : Nat))).run Try.prog W = .ok (.int .u64 (n : Nat)) W := fun W => by
    simp [Go.convert, go_sem, Conv.intToInt, E1.out]
  clear hu hl
  go_enter Try.func17, Try.ntmps17
  go_wp2
  go_ret
  exact ⟨congrArg (fun z => Ending.returned (.int .i64 z)) HV.out, rfl⟩
end Go.Proofs.Ytipniobgijdlkaa
end
section
/- A frame, as it is handed on; what a kind of frames has. -/
namespace Frm
open Go Go.Rw
/-- A frame's ten cells. -/
def fvA (k : Int) (n d : Nat) (vr : Value) (i o : Nat) (fin : Bool) (vd vc vt : Value) : Array Value :=
  #[.int .i64 k, .int .u64 (n : Nat), .int .u64 (d : Nat), vr, .int .u64 (i : Nat), .int .u64 (o : Nat), .bool fin, vd, vc, vt]
@[go_sem] theorem fvA_size (k : Int) (n d : Nat) (vr : Value) (i o : Nat) (fin : Bool) (vd vc vt : Value) : (fvA k n d vr i o fin vd vc vt).size = 10 := by simp [fvA]
@[go_sem] theorem fvA_0 (k : Int) (n d : Nat) (vr : Value) (i o : Nat) (fin : Bool) (vd vc vt : Value) : (fvA k n d vr i o fin vd vc vt)[0]? = some (.int .i64 k) := rfl
@[go_sem] theorem fvA_1 (k : Int) (n d : Nat) (vr : Value) (i o : Nat) (fin : Bool) (vd vc vt : Value) : (fvA k n d vr i o fin vd vc vt)[1]? = some (.int .u64 (n : Nat)) := rfl
@[go_sem] theorem fvA_2 (k : Int) (n d : Nat) (vr : Value) (i o : Nat) (fin : Bool) (vd vc vt : Value) : (fvA k n d vr i o fin vd vc vt)[2]? = some (.int .u64 (d : Nat)) := rfl
@[go_sem] theorem fvA_3 (k : Int) (n d : Nat) (vr : Value) (i o : Nat) (fin : Bool) (vd vc vt : Value) : (fvA k n d vr i o fin vd vc vt)[3]? = some (vr) := rfl
@[go_sem] theorem fvA_4 (k : Int) (n d : Nat) (vr : Value) (i o : Nat) (fin : Bool) (vd vc vt : Value) : (fvA k n d vr i o fin vd vc vt)[4]? = some (.int .u64 (i : Nat)) := rfl
@[go_sem] theorem fvA_5 (k : Int) (n d : Nat) (vr : Value) (i o : Nat) (fin : Bool) (vd vc vt : Value) : (fvA k n d vr i o fin vd vc vt)[5]? = some (.int .u64 (o : Nat)) := rfl
@[go_sem] theorem fvA_6 (k : Int) (n d : Nat) (vr : Value) (i o : Nat) (fin : Bool) (vd vc vt : Value) : (fvA k n d vr i o fin vd vc vt)[6]? = some (.bool fin) := rfl
@[go_sem] theorem fvA_7 (k : Int) (n d : Nat) (vr : Value) (i o : Nat) (fin : Bool) (vd vc vt : Value) : (fvA k n d vr i o fin vd vc vt)[7]? = some (vd) := rfl
@[go_sem] theorem fvA_8 (k : Int) (n d : Nat) (vr : Value) (i o : Nat) (fin : Bool) (vd vc vt : Value) : (fvA k n d vr i o fin vd vc vt)[8]? = some (vc) := rfl
@[go_sem] theorem fvA_9 (k : Int) (n d : Nat) (vr : Value) (i o : Nat) (fin : Bool) (vd vc vt : Value) : (fvA k n d vr i o fin vd vc vt)[9]? = some (vt) := rfl
theorem fvA_all (k : Int) (n d : Nat) (a1 a2 a3 a4 : Option Addr) (n1 n2 n3 n4 c1 c2 c3 c4 : Nat) (i o : Nat) (fin : Bool) : allOne (fvA k n d (.slice a1 n1 c1) i o fin (.slice a2 n2 c2) (.slice a3 n3 c3) (.slice a4 n4 c4)) = true := by simp [allOne, fvA, Value.oneCell']
attribute [go_sem] fvA_all
/-- What a kind of frames has: n, ack, id, offset, fin, data, cid. -/
def hasP (kind : Int) : Array Value × Bool :=
  if kind = 1 ∨ kind = 30 then (#[.bool false, .bool false, .bool false, .bool false, .bool false, .bool false, .bool false], true)
  else if kind = 0 ∨ kind = 16 ∨ kind = 25 ∨ kind = 28 then (#[.bool true, .bool false, .bool false, .bool false, .bool false, .bool false, .bool false], true)
  else if kind = 2 then (#[.bool false, .bool true, .bool false, .bool false, .bool false, .bool false, .bool false], true)
  else if kind = 6 then (#[.bool false, .bool false, .bool false, .bool true, .bool false, .bool true, .bool false], true)
  else if kind = 8 then (#[.bool false, .bool false, .bool true, .bool true, .bool true, .bool true, .bool false], true)
  else if kind = 24 then (#[.bool true, .bool false, .bool false, .bool false, .bool false, .bool false, .bool true], true)
  else if kind = 26 ∨ kind = 27 then (#[.bool false, .bool false, .bool false, .bool false, .bool false, .bool true, .bool false], true)
  else (#[.bool false, .bool false, .bool false, .bool false, .bool false, .bool false, .bool false], false)
theorem results_row2 {P : Program} {fn : Func} {p a : Tmp} {t n : Nat} (A : Agg P t n) (hr : fn.results = #[.cell p t, .tmp a]) (tmps : Array Value) (w : World) (blk : Nat) (cells : Array Value)
    (hp : tmps.getD p undef = .pointer (some ⟨blk, 0, none⟩)) (h : row? w blk = some cells) (hn : cells.size = n) : (results fn tmps).run P w = .ok (.tuple #[.agg cells, tmps.getD a undef]) w := by
  have h1 := results_row (fn := { fn with results := #[.cell p t] }) A rfl tmps w blk cells hp h hn
  simp only [results] at h1 ⊢
  simp [hr, Sem.run_bind, Result.andThen] at h1 ⊢
  cases hq : Sem.run P (asAddr (tmps[p]?.getD undef)) w with
  | ok x w1 =>
    rw [hq] at h1
    simp only [] at h1 ⊢
    rw [h1]
  | halt x w1 => rw [hq] at h1; cases h1
end Frm
namespace Go.Proofs.Ytipniobgijdlkaa
open Go.RowKit Go.Rw Frm
theorem AgFF : Agg Try.prog 28 10 := ⟨⟨_, Try.underlying28, rfl⟩, by kernel_rfl⟩
theorem ldFF (x : Value) : Instr.loadAt 28 x = loadAgg 28 x := rfl
theorem stFF (x y : Value) : Instr.storeAt 28 x y = storeAgg 28 x y := rfl
theorem alFF : Instr.alloc 28 true (.tuple #[]) = allocAgg 28 := rfl
theorem rldFF (w : World) (b : Nat) (h : (row? w b).map (·.size) = some 10) : (loadAgg 28 (.pointer (some ⟨b, 0, none⟩))).run Try.prog w = .ok (.agg ((row? w b).getD #[])) w := load_rule AgFF w b h
theorem rstFF (w : World) (b : Nat) (c' : Array Value) (h : (row? w b).map (·.size) = some 10) (hn : c'.size = 10) (h1 : allOne c' = true) : (storeAgg 28 (.pointer (some ⟨b, 0, none⟩)) (.agg c')).run Try.prog w = .ok () (w.setRow b c') := store_rule AgFF w b c' h hn h1
theorem ralFF (w : World) : (allocAgg 28).run Try.prog w = .ok (.pointer (some ⟨w.heap.size, 0, none⟩)) (w.alloc (.cells (fvA 0 0 0 (.slice none 0 0) 0 0 false (.slice none 0 0) (.slice none 0 0) (.slice none 0 0)) 28)) := alloc_rule (n := 10) (by kernel_rfl) w
theorem AgFS : Agg Try.prog 75 7 := ⟨⟨_, Try.underlying75, rfl⟩, by kernel_rfl⟩
theorem ldFS (x : Value) : Instr.loadAt 75 x = loadAgg 75 x := rfl
theorem stFS (x y : Value) : Instr.storeAt 75 x y = storeAgg 75 x y := rfl
theorem alFS : Instr.alloc 75 true (.tuple #[]) = allocAgg 75 := rfl
theorem rldFS (w : World) (b : Nat) (h : (row? w b).map (·.size) = some 7) : (loadAgg 75 (.pointer (some ⟨b, 0, none⟩))).run Try.prog w = .ok (.agg ((row? w b).getD #[])) w := load_rule AgFS w b h
theorem rstFS (w : World) (b : Nat) (c' : Array Value) (h : (row? w b).map (·.size) = some 7) (hn : c'.size = 7) (h1 : allOne c' = true) : (storeAgg 75 (.pointer (some ⟨b, 0, none⟩)) (.agg c')).run Try.prog w = .ok () (w.setRow b c') := store_rule AgFS w b c' h hn h1
theorem ralFS (w : World) : (allocAgg 75).run Try.prog w = .ok (.pointer (some ⟨w.heap.size, 0, none⟩)) (w.alloc (.cells (#[.bool false, .bool false, .bool false, .bool false, .bool false, .bool false, .bool false]) 75)) := alloc_rule (n := 7) (by kernel_rfl) w
theorem rstFSb (w : World) (b : Nat) (b0 b1 b2 b3 b4 b5 b6 : Bool) (h : (row? w b).map (·.size) = some 7) : (storeAgg 75 (.pointer (some ⟨b, 0, none⟩)) (.agg #[.bool b0, .bool b1, .bool b2, .bool b3, .bool b4, .bool b5, .bool b6])).run Try.prog w = .ok () (w.setRow b #[.bool b0, .bool b1, .bool b2, .bool b3, .bool b4, .bool b5, .bool b6]) := rstFS w b _ h rfl (by simp [allOne, Value.oneCell'])
theorem retFS {fn : Func} {p q : Tmp} {R : Ending → World → Prop} {a : Act} {w : World} (b : Nat) (c : Array Value) (hr : fn.results = #[.cell p 75, .tmp q]) (hp : a.tmps.getD p undef = .pointer (some ⟨b, 0, none⟩)) (hd : a.defers = [])
    (h : row? w b = some c) (hn : c.size = 7) (hR : R (.returned (.tuple #[.agg c, a.tmps.getD q undef])) w) : bodyPost Try.prog fn R .ret a w :=
  bodyPost_ret (results_row2 AgFS hr _ _ b c hp h hn) hd hR
attribute [local go_sem ↓] ldFF stFF alFF ldFS stFS alFS
attribute [local go_sem] rldFF rstFF ralFF rldFS rstFSb ralFS setRow_alloc_at setRow_alloc_past setRow_drew
set_option maxHeartbeats 1000000 in
theorem has_any (kind : Int) (w : World) :
    Calls Try.prog 50 #[.int .i64 kind] w fun e w' => e = .returned (.tuple #[.agg (hasP kind).1, .bool (hasP kind).2]) ∧ Below w.heap.size w w' := by
  obtain ⟨v, hv⟩ : ∃ v, hasP kind = v := ⟨_, rfl⟩
  rw [hv]
  unfold hasP at hv
  have HV := Lib.hid hv
  clear hv
  go_enter Try.func50, Try.ntmps50
  by_cases h1 : kind = 1
  · subst h1
    have hv := HV.out
    simp at hv
    go_wp2_with fail
    subst hv
    exact retFS w.heap.size _ rfl rfl rfl (row?_alloc_at _ _ _ _ rfl) rfl ⟨rfl, (Below.refl _ _).alloc (Nat.le_refl _) _⟩
  by_cases h30 : kind = 30
  · subst h30
    have hv := HV.out
    simp at hv
    go_wp2_with fail
    subst hv
    exact retFS w.heap.size _ rfl rfl rfl (row?_alloc_at _ _ _ _ rfl) rfl ⟨rfl, (Below.refl _ _).alloc (Nat.le_refl _) _⟩
  by_cases h0 : kind = 0
  · subst h0
    have hv := HV.out
    simp at hv
    go_wp2_with fail
    subst hv
    exact retFS w.heap.size _ rfl rfl rfl (row?_alloc_at _ _ _ _ rfl) rfl ⟨rfl, (Below.refl _ _).alloc (Nat.le_refl _) _⟩
  by_cases h16 : kind = 16
  · subst h16
    have hv := HV.out
    simp at hv
    go_wp2_with fail
    subst hv
    exact retFS w.heap.size _ rfl rfl rfl (row?_alloc_at _ _ _ _ rfl) rfl ⟨rfl, (Below.refl _ _).alloc (Nat.le_refl _) _⟩
  by_cases h25 : kind = 25
  · subst h25
    have hv := HV.out
    simp at hv
    go_wp2_with fail
    subst hv
    exact retFS w.heap.size _ rfl rfl rfl (row?_alloc_at _ _ _ _ rfl) rfl ⟨rfl, (Below.refl _ _).alloc (Nat.le_refl _) _⟩
  by_cases h28 : kind = 28
  · subst h28
    have hv := HV.out
    simp at hv
    go_wp2_with fail
    subst hv
    exact retFS w.heap.size _ rfl rfl rfl (row?_alloc_at _ _ _ _ rfl) rfl ⟨rfl, (Below.refl _ _).alloc (Nat.le_refl _) _⟩
  by_cases h2 : kind = 2
  · subst h2
    have hv := HV.out
    simp at hv
    go_wp2_with fail
    subst hv
    exact retFS w.heap.size _ rfl rfl rfl (row?_alloc_at _ _ _ _ rfl) rfl ⟨rfl, (Below.refl _ _).alloc (Nat.le_refl _) _⟩
  by_cases h6 : kind = 6
  · subst h6
    have hv := HV.out
    simp at hv
    go_wp2_with fail
    subst hv
    exact retFS w.heap.size _ rfl rfl rfl (row?_alloc_at _ _ _ _ rfl) rfl ⟨rfl, (Below.refl _ _).alloc (Nat.le_refl _) _⟩
  by_cases h8 : kind = 8
  · subst h8
    have hv := HV.out
    simp at hv
    go_wp2_with fail
    subst hv
    exact retFS w.heap.size _ rfl rfl rfl (row?_alloc_at _ _ _ _ rfl) rfl ⟨rfl, (Below.refl _ _).alloc (Nat.le_refl _) _⟩
  by_cases h24 : kind = 24
  · subst h24
    have hv := HV.out
    simp at hv
    go_wp2_with fail
    subst hv
    exact retFS w.heap.size _ rfl rfl rfl (row?_alloc_at _ _ _ _ rfl) rfl ⟨rfl, (Below.refl _ _).alloc (Nat.le_refl _) _⟩
  by_cases h26 : kind = 26
  · subst h26
    have hv := HV.out
    simp at hv
    go_wp2_with fail
    subst hv
    exact retFS w.heap.size _ rfl rfl rfl (row?_alloc_at _ _ _ _ rfl) rfl ⟨rfl, (Below.refl _ _).alloc (Nat.le_refl _) _⟩
  by_cases h27 : kind = 27
  · subst h27
    have hv := HV.out
    simp at hv
    go_wp2_with fail
    subst hv
    exact retFS w.heap.size _ rfl rfl rfl (row?_alloc_at _ _ _ _ rfl) rfl ⟨rfl, (Below.refl _ _).alloc (Nat.le_refl _) _⟩
  have hv := HV.out
  simp [h1, h30, h0, h16, h25, h28, h2, h6, h8, h24, h26, h27] at hv
  subst hv
  go_wp2_with fail
  exact retFS w.heap.size _ rfl rfl rfl (row?_alloc_at _ _ _ _ rfl) rfl ⟨rfl, (Below.refl _ _).alloc (Nat.le_refl _) _⟩
end Go.Proofs.Ytipniobgijdlkaa
end
