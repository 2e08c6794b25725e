/- A frame, as it is handed on; what a kind of frames has. -/
import Derived.Test.YthjbmggpleliaaaGreatDoorMhb3
import Derived.Test.YthjbmggpleliaaaGreatDoorMhb4
import Derived.Test.YthjbmggpleliaaaGreatDoorMhb23
namespace Frm
open Go Go.Rw
def fvA (k : Int) (n d : Nat) (vr : Value) (i o : Nat) (fin : Bool) (vd vc vt : Value) : Array Value :=
 #[.int .i64 k, .int .u64 (n : Nat), .int .u64 (d : Nat), vr, .int .u64 (i : Nat), .int .u64 (o : Nat), .bool fin, vd, vc, vt]
@[go_sem] theorem fvA_size (k : Int) (n d : Nat) (vr : Value) (i o : Nat) (fin : Bool) (vd vc vt : Value) : (fvA k n d vr i o fin vd vc vt).size = 10 := by simp [fvA]
@[go_sem] theorem fvA_0 (k : Int) (n d : Nat) (vr : Value) (i o : Nat) (fin : Bool) (vd vc vt : Value) : (fvA k n d vr i o fin vd vc vt)[0]? = some (.int .i64 k) := rfl
@[go_sem] theorem fvA_1 (k : Int) (n d : Nat) (vr : Value) (i o : Nat) (fin : Bool) (vd vc vt : Value) : (fvA k n d vr i o fin vd vc vt)[1]? = some (.int .u64 (n : Nat)) := rfl
@[go_sem] theorem fvA_2 (k : Int) (n d : Nat) (vr : Value) (i o : Nat) (fin : Bool) (vd vc vt : Value) : (fvA k n d vr i o fin vd vc vt)[2]? = some (.int .u64 (d : Nat)) := rfl
@[go_sem] theorem fvA_3 (k : Int) (n d : Nat) (vr : Value) (i o : Nat) (fin : Bool) (vd vc vt : Value) : (fvA k n d vr i o fin vd vc vt)[3]? = some (vr) := rfl
@[go_sem] theorem fvA_4 (k : Int) (n d : Nat) (vr : Value) (i o : Nat) (fin : Bool) (vd vc vt : Value) : (fvA k n d vr i o fin vd vc vt)[4]? = some (.int .u64 (i : Nat)) := rfl
@[go_sem] theorem fvA_5 (k : Int) (n d : Nat) (vr : Value) (i o : Nat) (fin : Bool) (vd vc vt : Value) : (fvA k n d vr i o fin vd vc vt)[5]? = some (.int .u64 (o : Nat)) := rfl
@[go_sem] theorem fvA_6 (k : Int) (n d : Nat) (vr : Value) (i o : Nat) (fin : Bool) (vd vc vt : Value) : (fvA k n d vr i o fin vd vc vt)[6]? = some (.bool fin) := rfl
@[go_sem] theorem fvA_7 (k : Int) (n d : Nat) (vr : Value) (i o : Nat) (fin : Bool) (vd vc vt : Value) : (fvA k n d vr i o fin vd vc vt)[7]? = some (vd) := rfl
@[go_sem] theorem fvA_8 (k : Int) (n d : Nat) (vr : Value) (i o : Nat) (fin : Bool) (vd vc vt : Value) : (fvA k n d vr i o fin vd vc vt)[8]? = some (vc) := rfl
@[go_sem] theorem fvA_9 (k : Int) (n d : Nat) (vr : Value) (i o : Nat) (fin : Bool) (vd vc vt : Value) : (fvA k n d vr i o fin vd vc vt)[9]? = some (vt) := rfl
theorem fvA_all (k : Int) (n d : Nat) (a1 a2 a3 a4 : Option Addr) (n1 n2 n3 n4 c1 c2 c3 c4 : Nat) (i o : Nat) (fin : Bool) : allOne (fvA k n d (.slice a1 n1 c1) i o fin (.slice a2 n2 c2) (.slice a3 n3 c3) (.slice a4 n4 c4)) = true := by simp [allOne, fvA, Value.oneCell']
attribute [go_sem] fvA_all
def hasP (kind : Int) : Array Value × Bool :=
 if kind = 1 ∨ kind = 30 then (#[.bool false, .bool false, .bool false, .bool false, .bool false, .bool false, .bool false], true)
 else if kind = 0 ∨ kind = 16 ∨ kind = 25 ∨ kind = 28 then (#[.bool true, .bool false, .bool false, .bool false, .bool false, .bool false, .bool false], true)
 else if kind = 2 then (#[.bool false, .bool true, .bool false, .bool false, .bool false, .bool false, .bool false], true)
 else if kind = 6 then (#[.bool false, .bool false, .bool false, .bool true, .bool false, .bool true, .bool false], true)
 else if kind = 8 then (#[.bool false, .bool false, .bool true, .bool true, .bool true, .bool true, .bool false], true)
 else if kind = 24 then (#[.bool true, .bool false, .bool false, .bool false, .bool false, .bool false, .bool true], true)
 else if kind = 26 ∨ kind = 27 then (#[.bool false, .bool false, .bool false, .bool false, .bool false, .bool true, .bool false], true)
 else (#[.bool false, .bool false, .bool false, .bool false, .bool false, .bool false, .bool false], false)
theorem results_row2 {P : Program} {fn : Func} {p a : Tmp} {t n : Nat} (A : Agg P t n) (hr : fn.results = #[.cell p t, .tmp a]) (tmps : Array Value) (w : World) (blk : Nat) (cells : Array Value)
  (hp : tmps.getD p undef = .pointer (some ⟨blk, 0, none⟩)) (h : row? w blk = some cells) (hn : cells.size = n) : (results fn tmps).run P w = .ok (.tuple #[.agg cells, tmps.getD a undef]) w := by
 have h1 := results_row (fn := { fn with results := #[.cell p t] }) A rfl tmps w blk cells hp h hn
 simp only [results] at h1 ⊢
 simp [hr, Sem.run_bind, Result.andThen] at h1 ⊢
 cases hq : Sem.run P (asAddr (tmps[p]?.getD undef)) w with
 | ok x w1 =>
  rw [hq] at h1
  simp only [] at h1 ⊢
  rw [h1]
 | halt x w1 => rw [hq] at h1; cases h1
end Frm
namespace Go.Proofs.YthjbmggpleliaaaGreatDoor
open Go.RowKit Go.Rw Frm
theorem AgFF : Agg Tryz.prog 159 10 := ⟨⟨_, Tryz.underlying159, rfl⟩, by kernel_rfl⟩
theorem ldFF (x : Value) : Instr.loadAt 159 x = loadAgg 159 x := rfl
theorem stFF (x y : Value) : Instr.storeAt 159 x y = storeAgg 159 x y := rfl
theorem alFF : Instr.alloc 159 true (.tuple #[]) = allocAgg 159 := rfl
theorem rldFF (w : World) (b : Nat) (h : (row? w b).map (·.size) = some 10) : (loadAgg 159 (.pointer (some ⟨b, 0, none⟩))).run Tryz.prog w = .ok (.agg ((row? w b).getD #[])) w := load_rule AgFF w b h
theorem rstFF (w : World) (b : Nat) (c' : Array Value) (h : (row? w b).map (·.size) = some 10) (hn : c'.size = 10) (h1 : allOne c' = true) : (storeAgg 159 (.pointer (some ⟨b, 0, none⟩)) (.agg c')).run Tryz.prog w = .ok () (w.setRow b c') := store_rule AgFF w b c' h hn h1
theorem ralFF (w : World) : (allocAgg 159).run Tryz.prog w = .ok (.pointer (some ⟨w.heap.size, 0, none⟩)) (w.alloc (.cells (fvA 0 0 0 (.slice none 0 0) 0 0 false (.slice none 0 0) (.slice none 0 0) (.slice none 0 0)) 159)) := alloc_rule (n := 10) (by kernel_rfl) w
theorem AgFS : Agg Tryz.prog 266 7 := ⟨⟨_, Tryz.underlying266, rfl⟩, by kernel_rfl⟩
theorem ldFS (x : Value) : Instr.loadAt 266 x = loadAgg 266 x := rfl
theorem stFS (x y : Value) : Instr.storeAt 266 x y = storeAgg 266 x y := rfl
theorem alFS : Instr.alloc 266 true (.tuple #[]) = allocAgg 266 := rfl
theorem rldFS (w : World) (b : Nat) (h : (row? w b).map (·.size) = some 7) : (loadAgg 266 (.pointer (some ⟨b, 0, none⟩))).run Tryz.prog w = .ok (.agg ((row? w b).getD #[])) w := load_rule AgFS w b h
theorem rstFS (w : World) (b : Nat) (c' : Array Value) (h : (row? w b).map (·.size) = some 7) (hn : c'.size = 7) (h1 : allOne c' = true) : (storeAgg 266 (.pointer (some ⟨b, 0, none⟩)) (.agg c')).run Tryz.prog w = .ok () (w.setRow b c') := store_rule AgFS w b c' h hn h1
theorem ralFS (w : World) : (allocAgg 266).run Tryz.prog w = .ok (.pointer (some ⟨w.heap.size, 0, none⟩)) (w.alloc (.cells (#[.bool false, .bool false, .bool false, .bool false, .bool false, .bool false, .bool false]) 266)) := alloc_rule (n := 7) (by kernel_rfl) w
theorem rstFSb (w : World) (b : Nat) (b0 b1 b2 b3 b4 b5 b6 : Bool) (h : (row? w b).map (·.size) = some 7) : (storeAgg 266 (.pointer (some ⟨b, 0, none⟩)) (.agg #[.bool b0, .bool b1, .bool b2, .bool b3, .bool b4, .bool b5, .bool b6])).run Tryz.prog w = .ok () (w.setRow b #[.bool b0, .bool b1, .bool b2, .bool b3, .bool b4, .bool b5, .bool b6]) := rstFS w b _ h rfl (by simp [allOne, Value.oneCell'])
theorem retFS {fn : Func} {p q : Tmp} {R : Ending → World → Prop} {a : Act} {w : World} (b : Nat) (c : Array Value) (hr : fn.results = #[.cell p 266, .tmp q]) (hp : a.tmps.getD p undef = .pointer (some ⟨b, 0, none⟩)) (hd : a.defers = [])
  (h : row? w b = some c) (hn : c.size = 7) (hR : R (.returned (.tuple #[.agg c, a.tmps.getD q undef])) w) : bodyPost Tryz.prog fn R .ret a w :=
 bodyPost_ret (results_row2 AgFS hr _ _ b c hp h hn) hd hR
attribute [local go_sem ↓] ldFF stFF alFF ldFS stFS alFS
attribute [local go_sem] rldFF rstFF ralFF rldFS rstFSb ralFS setRow_alloc_at setRow_alloc_past setRow_drew
set_option maxHeartbeats 1000000 in
theorem has_any (kind : Int) (w : World) :
  Calls Tryz.prog 158 #[.int .i64 kind] w fun e w' => e = .returned (.tuple #[.agg (hasP kind).1, .bool (hasP kind).2]) ∧ Below w.heap.size w w' := by
 obtain ⟨v, hv⟩ : ∃ v, hasP kind = v := ⟨_, rfl⟩
 rw [hv]
 unfold hasP at hv
 have HV := Lib.hid hv
 clear hv
 go_enter Tryz.func158, Tryz.ntmps158
 by_cases h1 : kind = 1
 ·subst h1
  have hv := HV.out
  simp at hv
  go_wp2_with fail
  subst hv
  exact retFS w.heap.size _ rfl rfl rfl (row?_alloc_at _ _ _ _ rfl) rfl ⟨rfl, (Below.refl _ _).alloc (Nat.le_refl _) _⟩
 by_cases h30 : kind = 30
 ·subst h30
  have hv := HV.out
  simp at hv
  go_wp2_with fail
  subst hv
  exact retFS w.heap.size _ rfl rfl rfl (row?_alloc_at _ _ _ _ rfl) rfl ⟨rfl, (Below.refl _ _).alloc (Nat.le_refl _) _⟩
 by_cases h0 : kind = 0
 ·subst h0
  have hv := HV.out
  simp at hv
  go_wp2_with fail
  subst hv
  exact retFS w.heap.size _ rfl rfl rfl (row?_alloc_at _ _ _ _ rfl) rfl ⟨rfl, (Below.refl _ _).alloc (Nat.le_refl _) _⟩
 by_cases h16 : kind = 16
 ·subst h16
  have hv := HV.out
  simp at hv
  go_wp2_with fail
  subst hv
  exact retFS w.heap.size _ rfl rfl rfl (row?_alloc_at _ _ _ _ rfl) rfl ⟨rfl, (Below.refl _ _).alloc (Nat.le_refl _) _⟩
 by_cases h25 : kind = 25
 ·subst h25
  have hv := HV.out
  simp at hv
  go_wp2_with fail
  subst hv
  exact retFS w.heap.size _ rfl rfl rfl (row?_alloc_at _ _ _ _ rfl) rfl ⟨rfl, (Below.refl _ _).alloc (Nat.le_refl _) _⟩
 by_cases h28 : kind = 28
 ·subst h28
  have hv := HV.out
  simp at hv
  go_wp2_with fail
  subst hv
  exact retFS w.heap.size _ rfl rfl rfl (row?_alloc_at _ _ _ _ rfl) rfl ⟨rfl, (Below.refl _ _).alloc (Nat.le_refl _) _⟩
 by_cases h2 : kind = 2
 ·subst h2
  have hv := HV.out
  simp at hv
  go_wp2_with fail
  subst hv
  exact retFS w.heap.size _ rfl rfl rfl (row?_alloc_at _ _ _ _ rfl) rfl ⟨rfl, (Below.refl _ _).alloc (Nat.le_refl _) _⟩
 by_cases h6 : kind = 6
 ·subst h6
  have hv := HV.out
  simp at hv
  go_wp2_with fail
  subst hv
  exact retFS w.heap.size _ rfl rfl rfl (row?_alloc_at _ _ _ _ rfl) rfl ⟨rfl, (Below.refl _ _).alloc (Nat.le_refl _) _⟩
 by_cases h8 : kind = 8
 ·subst h8
  have hv := HV.out
  simp at hv
  go_wp2_with fail
  subst hv
  exact retFS w.heap.size _ rfl rfl rfl (row?_alloc_at _ _ _ _ rfl) rfl ⟨rfl, (Below.refl _ _).alloc (Nat.le_refl _) _⟩
 by_cases h24 : kind = 24
 ·subst h24
  have hv := HV.out
  simp at hv
  go_wp2_with fail
  subst hv
  exact retFS w.heap.size _ rfl rfl rfl (row?_alloc_at _ _ _ _ rfl) rfl ⟨rfl, (Below.refl _ _).alloc (Nat.le_refl _) _⟩
 by_cases h26 : kind = 26
 ·subst h26
  have hv := HV.out
  simp at hv
  go_wp2_with fail
  subst hv
  exact retFS w.heap.size _ rfl rfl rfl (row?_alloc_at _ _ _ _ rfl) rfl ⟨rfl, (Below.refl _ _).alloc (Nat.le_refl _) _⟩
 by_cases h27 : kind = 27
 ·subst h27
  have hv := HV.out
  simp at hv
  go_wp2_with fail
  subst hv
  exact retFS w.heap.size _ rfl rfl rfl (row?_alloc_at _ _ _ _ rfl) rfl ⟨rfl, (Below.refl _ _).alloc (Nat.le_refl _) _⟩
 have hv := HV.out
 simp [h1, h30, h0, h16, h25, h28, h2, h6, h8, h24, h26, h27] at hv
 subst hv
 go_wp2_with fail
 exact retFS w.heap.size _ rfl rfl rfl (row?_alloc_at _ _ _ _ rfl) rfl ⟨rfl, (Below.refl _ _).alloc (Nat.le_refl _) _⟩
end Go.Proofs.YthjbmggpleliaaaGreatDoor
