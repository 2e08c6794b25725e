/- LibR; LibF. -/
import Derived.OrdersHeld
import Derived.StillTail
import Derived.Below
import Derived.Laws.Panics
import Derived.KernelRfl
import Derived.Test.YthjbmggpleliaaaGreatDoorMhb1
section
namespace Go.Rg
open Go Go.RowKit
def Keep (w w' : World) : Prop := ∀ (b : Nat) (o : Obj), w.heap[b]? = some o → w'.heap[b]? = some o
theorem Keep.refl (w : World) : Keep w w := fun _ _ h => h
theorem Keep.trans {a b c : World} (h : Keep a b) (k : Keep b c) : Keep a c := fun _ _ e => k _ _ (h _ _ e)
theorem Keep.of_below {w w' : World} (h : Below w.heap.size w w') : Keep w w' := fun b o e => by
 rw [h.block b (Array.getElem?_eq_some_iff.1 e).1]; exact e
theorem Keep.of_heap {w w' : World} (h : w'.heap = w.heap) : Keep w w' := fun b o e => by rw [h]; exact e
theorem Keep.cell {w w' : World} (h : Keep w w') {a : Addr} {v : Value} (e : w.cell? a = some v) : w'.cell? a = some v := by
 unfold World.cell? at *
 split at e
 ·rename_i c t f hb; rw [h _ _ hb]; exact e
 ·cases e
def Firm (P : Program) (R : World → World → Prop) {α : Type} (e : Sem α) : Prop := ∀ w x w', e.run P w = .ok x w' → w' = w ∧ ∀ w2, R w w2 → e.run P w2 = .ok x w2
variable {P : Program} {R : World → World → Prop}
theorem Firm.pure {α : Type} (a : α) : Firm P R (Pure.pure a : Sem α) := fun w x w' h => by
 simp only [Sem.run_pure, Result.ok.injEq] at h
 obtain ⟨rfl, rfl⟩ := h
 exact ⟨rfl, fun w2 _ => by simp only [Sem.run_pure]⟩
theorem Firm.bind {α β : Type} {e : Sem α} {f : α → Sem β} (he : Firm P R e) (hf : ∀ a, Firm P R (f a)) : Firm P R (e >>= f) := fun w x w' h => by
 rw [Sem.run_bind] at h
 cases hr : e.run P w with
 | halt q w1 => rw [hr] at h; simp [Result.andThen] at h
 | ok a w1 =>
  rw [hr] at h
  simp only [Result.andThen] at h
  obtain ⟨rfl, h1⟩ := he w a w1 hr
  obtain ⟨rfl, h2⟩ := hf a _ x w' h
  exact ⟨rfl, fun w2 k => by rw [Sem.run_bind, h1 w2 k]; exact h2 w2 k⟩
theorem Firm.never {α : Type} {e : Sem α} (h : ∀ w x w', e.run P w ≠ .ok x w') : Firm P R e := fun w x w' hr => absurd hr (h w x w')
theorem Firm.stuck {α : Type} (s : String) : Firm P R (Go.stuck s : Sem α) := .never fun w x w' h => by simp [Go.stuck] at h
theorem Firm.unsupported {α : Type} (s : Unsupported) : Firm P R (Go.unsupported s : Sem α) := .never fun w x w' h => by simp [Go.unsupported] at h
theorem Firm.goPanic {α : Type} (v : Value) : Firm P R (Go.goPanic v : Sem α) := .never fun w x w' h => by simp [Go.goPanic] at h
theorem Firm.program : Firm P R Go.program := fun w x w' h => by
 simp only [Go.program, Sem.run, Result.ok.injEq] at h
 obtain ⟨rfl, rfl⟩ := h
 exact ⟨rfl, fun w2 _ => by simp only [Go.program, Sem.run]⟩
theorem Firm.boundsPanic {α : Type} (k : IntKind) (x y : Int) (c : BoundsCode) : Firm P R (Go.boundsPanic k x y c : Sem α) := .never fun w x' w' h => by
 obtain ⟨s, w1, e⟩ := run_boundsPanic (α := α) (P := P) (w := w) k x y c
 rw [e] at h; cases h
theorem Firm.ite {α : Type} {c : Prop} [Decidable c] {a b : Sem α} (ha : Firm P R a) (hb : Firm P R b) : Firm P R (if c then a else b) := by split <;> assumption
theorem Firm.typeInfo (t : TypeId) : Firm P R (Go.typeInfo t) := by
 unfold Go.typeInfo
 refine .bind .program fun p => ?_
 split
 ·exact .pure _
 ·exact .stuck _
theorem Firm.underlying (t : TypeId) : Firm P R (Go.underlying t) := by
 unfold Go.underlying
 refine .bind .program fun p => ?_
 split
 ·exact .pure _
 ·exact .stuck _
theorem Firm.sizeOf (t : TypeId) : Firm P R (Go.sizeOf t) := by
 unfold Go.sizeOf
 exact .bind (.typeInfo t) fun _ => .pure _
theorem Firm.isAgg (t : TypeId) : Firm P R (Go.isAgg t) := by
 unfold Go.isAgg
 refine .bind (.underlying t) fun d => ?_
 split <;> exact .pure _
theorem seen_none {p : Program} {w : World} {at_ : Addr} {u : TypeId} {k : Addr} {m : Bool} (h : w.heap[at_.block]? = none) : ∀ r, w.seen p at_ u k m ≠ .ok r := by
 intro r hr
 unfold World.seen at hr
 simp only [h] at hr
 (repeat' split at hr) <;> simp_all [bind, Except.bind]
theorem viewLoad_keep {p : Program} {w w2 : World} {at_ : Addr} {u : TypeId} {k : Addr} {m : Bool} {r : Value × List Addr} (hk : Keep w w2) (h : w.viewLoad p at_ u k m = .ok r) : w2.viewLoad p at_ u k m = .ok r := by
 cases hb : w.heap[at_.block]? with
 | none =>
  unfold World.viewLoad at h
  cases hs : w.seen p at_ u k m with
  | ok r => exact absurd hs (seen_none hb r)
  | error e => rw [hs] at h; simp [bind, Except.bind] at h
 | some o =>
  have hb2 := hk _ _ hb
  unfold World.viewLoad World.seen at *
  rw [hb] at h
  rw [hb2]
  exact h
theorem farLoad_keep {p : Program} {w w2 : World} {a : Addr} {m : Bool} {r : Value × List Addr} (hk : Keep w w2) (h : w.farLoad p a m = .ok r) : w2.farLoad p a m = .ok r := by
 unfold World.farLoad at *
 cases hb : w.heap[a.block]? with
 | none => rw [hb] at h; simp at h
 | some o =>
  rw [hb] at h; rw [hk _ _ hb]
  cases o with
  | view at_ u =>
   simp only at h ⊢
   cases hv : w.viewLoad p at_ u a m with
   | ok r' => rw [hv] at h; rw [viewLoad_keep hk hv]; exact h
   | error e => rw [hv] at h; simp at h
  | _ => simp at h
theorem Firm.load (a : Addr) (m : Mode) : Firm P Keep (Go.load a m) := fun w x w' h => by
 simp only [Go.load, Sem.run] at h ⊢
 cases hc : w.cell? a with
 | some v =>
  rw [hc] at h
  simp only [Result.ok.injEq] at h
  obtain ⟨rfl, rfl⟩ := h
  exact ⟨rfl, fun w2 k => by rw [k.cell hc]⟩
 | none =>
  rw [hc] at h
  simp only at h
  cases hf : w.farLoad P a (m == .atomic) with
  | error e => rw [hf] at h; simp at h
  | ok r =>
   rw [hf] at h
   simp only [Result.ok.injEq] at h
   obtain ⟨rfl, rfl⟩ := h
   refine ⟨rfl, fun w2 k => ?_⟩
   have h2 := farLoad_keep k hf
   have hn : w2.cell? a = none := by
    unfold World.farLoad at hf
    cases hb : w.heap[a.block]? with
    | none => rw [hb] at hf; simp at hf
    | some o =>
     rw [hb] at hf
     cases o with
     | view at_ u => simp [World.cell?, k _ _ hb]
     | _ => simp at hf
   rw [hn, h2]
theorem Firm.getObj (r : Nat) : Firm P Keep (Go.getObj r) := fun w x w' h => by
 simp only [Go.getObj, Sem.run] at h ⊢
 cases hb : w.heap[r]? with
 | none => rw [hb] at h; simp at h
 | some o =>
  rw [hb] at h
  cases o <;> simp at h <;> (obtain ⟨rfl, rfl⟩ := h; exact ⟨rfl, fun w2 k => by rw [k _ _ hb]⟩)
theorem Firm.loadCellsFrom (a : Addr) : ∀ (n i : Nat) (acc : Array Value), Firm P Keep (Go.loadCellsFrom a i n acc)
 | 0, _, _ => .pure _
 | n + 1, _, _ => .bind (.load _ _) fun _ => Firm.loadCellsFrom a n _ _
theorem Firm.loadVar (t : TypeId) (a : Addr) : Firm P Keep (Go.loadVar t a) := by
 unfold Go.loadVar
 refine .bind (.isAgg t) fun b => ?_
 cases b
 ·exact .load _ _
 ·exact .bind (.sizeOf t) fun _ => .bind (.loadCellsFrom _ _ _ _) fun _ => .pure _
theorem Firm.sureAddr (x : Value) : Firm P R (Instr.sureAddr x) := by
 unfold Instr.sureAddr; split
 ·exact .pure _
 ·exact .stuck _
theorem Firm.loadAt (t : TypeId) (x : Value) : Firm P Keep (Instr.loadAt t x) := .bind (.sureAddr x) fun _ => .loadVar t _
theorem Firm.asIntOf (x : Value) : Firm P R (Go.asIntOf x) := by
 unfold Go.asIntOf; split
 ·exact .pure _
 ·exact .unsupported _
 ·exact .stuck _
theorem Firm.asBool (x : Value) : Firm P R (Go.asBool x) := by
 unfold Go.asBool; split
 ·exact .pure _
 ·exact .stuck _
theorem Firm.asAgg (x : Value) : Firm P R (Go.asAgg x) := by
 unfold Go.asAgg; split
 ·exact .pure _
 ·exact .stuck _
theorem Firm.indexAt (t : TypeId) (x ix : Value) : Firm P R (Instr.indexAt t x ix) := by
 unfold Instr.indexAt
 refine .bind (.asIntOf ix) fun ki => .bind (.underlying t) fun d => ?_
 dsimp only
 split
 ·refine .bind (.sureAddr _) fun a => .bind (.pure _) fun bl => ?_
  refine .bind (.underlying t) fun d2 => ?_
  split
  ·exact .ite (.bind (.sizeOf _) fun _ => .pure _) (.ite (.unsupported _) (.boundsPanic _ _ _ _))
  ·exact .boundsPanic _ _ _ _
 ·refine .bind (.pure _) fun bl => ?_
  refine .bind (.underlying t) fun d2 => ?_
  split
  ·exact .ite (.bind (.sizeOf _) fun _ => .pure _) (.ite (.unsupported _) (.boundsPanic _ _ _ _))
  ·exact .boundsPanic _ _ _ _
 ·refine .bind (.stuck _) fun bl => ?_
  refine .bind (.underlying t) fun d2 => ?_
  split
  ·exact .ite (.bind (.sizeOf _) fun _ => .pure _) (.ite (.unsupported _) (.boundsPanic _ _ _ _))
  ·exact .boundsPanic _ _ _ _
theorem Firm.part (t : TypeId) (cs : Array Value) (o : Nat) : Firm P R (Go.part t cs o) := by
 unfold Go.part
 refine .bind (.isAgg t) fun b => ?_
 cases b
 ·simp only [Bool.false_eq_true, if_false]
  split
  ·exact .pure _
  ·exact .stuck _
 ·exact .bind (.sizeOf t) fun _ => .pure _
theorem Firm.field (t : TypeId) (x : Value) (f : Nat) : Firm P R (Instr.field t x f) := by
 unfold Instr.field
 refine .bind (.underlying t) fun d => ?_
 split
 ·split
  ·exact .bind (.asAgg x) fun _ => .part _ _ _
  ·exact .stuck _
 ·exact .stuck _
theorem Firm.index (t : TypeId) (x ix : Value) : Firm P R (Instr.index t x ix) := by
 unfold Instr.index
 refine .bind (.asIntOf ix) fun ki => .bind (.underlying t) fun d => ?_
 obtain ⟨k, i⟩ := ki
 dsimp only
 split
 ·exact .ite (.bind (.sizeOf _) fun _ => .part _ _ _) (.boundsPanic _ _ _ _)
 ·split
  ·exact .pure _
  ·exact .boundsPanic _ _ _ _
 ·exact .stuck _
theorem Firm.extract (x : Value) (i : Nat) : Firm P R (Instr.extract x i) := by
 unfold Instr.extract; split
 ·split
  ·exact .pure _
  ·exact .stuck _
 ·exact .stuck _
theorem Firm.sliceBound (x : Value) (y : Nat) (c : BoundsCode) : Firm P R (Instr.sliceBound x y c) := by
 unfold Instr.sliceBound
 refine .bind (.asIntOf x) fun ki => ?_
 exact .ite (.pure _) (.boundsPanic _ _ _ _)
theorem Firm.sliceBounds (s : Bool) (l c : Nat) (lo hi mx : Option Value) : Firm P R (Instr.sliceBounds s l c lo hi mx) := by
 unfold Instr.sliceBounds
 dsimp only
 cases lo <;> cases hi <;> cases mx <;> dsimp only <;>
  (repeat (first | exact .pure _ | exact .stuck _ | refine .bind (.sliceBound _ _ _) fun _ => ?_ | refine .bind (.pure _) fun _ => ?_ | refine .bind (.stuck _) fun _ => ?_))
theorem Firm.runtimeError {α : Type} (m : String) : Firm P R (Go.runtimePanic (.error m) : Sem α) := by
 unfold Go.runtimePanic
 exact .bind .program fun _ => .goPanic _
theorem Firm.nilDeref {α : Type} : Firm P R (Go.runtimePanic .nilDeref : Sem α) := by
 unfold Go.runtimePanic
 exact .bind .program fun _ => .goPanic _
theorem Firm.asAddr (x : Value) : Firm P R (Go.asAddr x) := by
 unfold Go.asAddr; split
 ·exact .pure _
 ·exact .nilDeref
 ·exact .stuck _
theorem Firm.slice (t : TypeId) (x : Value) (lo hi mx : Option Value) : Firm P R (Instr.slice t x lo hi mx) := by
 unfold Instr.slice
 refine .bind (.underlying t) fun d => ?_
 split
 ·dsimp only
  exact .ite (.bind (.stuck _) fun _ => .bind (.sliceBounds _ _ _ _ _ _) fun _ => .pure _) (.bind (.sliceBounds _ _ _ _ _ _) fun _ => .pure _)
 ·exact .bind (.sliceBounds _ _ _ _ _ _) fun _ => .bind (.sizeOf _) fun _ => .pure _
 ·refine .bind (.asAddr _) fun _ => .bind (.underlying _) fun d => ?_
  split
  ·exact .bind (.sliceBounds _ _ _ _ _ _) fun _ => .bind (.sizeOf _) fun _ => .pure _
  ·exact .stuck _
 ·exact .stuck _
theorem Firm.sliceAt (t : TypeId) (x : Value) (lo hi mx : Option Value) : Firm P R (Instr.sliceAt t x lo hi mx) := by
 unfold Instr.sliceAt
 refine .bind (.underlying t) fun d => ?_
 split
 ·exact .bind (.sureAddr _) fun _ => .bind (.sliceBounds _ _ _ _ _ _) fun _ => .bind (.sizeOf _) fun _ => .pure _
 ·exact .slice _ _ _ _ _
theorem Firm.makeInterface (t : TypeId) (x : Value) : Firm P R (Instr.makeInterface t x) := by
 unfold Instr.makeInterface
 refine .bind (.underlying t) fun d => ?_
 split
 ·exact .stuck _
 ·exact .pure _
theorem Firm.unary (o : UnOp) (x : Value) : Firm P R (Op.unary o x) := by
 unfold Op.unary Op.intArith Op.intBits
 (repeat' split) <;> first | exact .pure _ | exact .stuck _ | exact .unsupported _
theorem Firm.intOps (op : BinOp) (t : TypeId) (k k' : IntKind) (a b : Int) : Firm P R (Go.binOp op t (.int k a) (.int k' b)) := by
 cases op <;> simp only [Go.binOp]
 all_goals first
  | (refine .ite (.stuck _) ?_; first | exact .pure _ | (unfold Op.intDiv; exact .ite (.runtimeError _) (.pure _)))
  | (unfold Op.shift; exact .ite (.runtimeError _) (.pure _))
theorem Firm.stringOps (op : BinOp) (t : TypeId) (a b : ByteArray) : Firm P R (Go.binOp op t (.string a) (.string b)) := by
 cases op <;> simp only [Go.binOp, Op.stringOp] <;> first | exact .pure _ | exact .stuck _ | exact .ite (.unsupported _) (.pure _)
theorem Firm.boolOps (op : BinOp) (t : TypeId) (a b : Bool) : Firm P R (Go.binOp op t (.bool a) (.bool b)) := by
 have h : Firm P R (Op.equal t (.bool a) (.bool b)) := by
  unfold Op.equal Op.maxDepth Op.equalIn
  refine .bind (.underlying t) fun d => ?_
  split <;> rename_i h1 h2 <;> first | (cases h1; done) | (cases h2; done) | exact .pure _ | exact .stuck _ | exact .unsupported _
 cases op <;> simp only [Go.binOp] <;> first | exact .stuck _ | exact .bind h fun _ => .pure _
theorem Firm.underlying_bind {β : Type} {t : TypeId} {d : TypeDesc} {f : TypeDesc → Sem β} (h : P.underlying t = some d) (hf : Firm P R (f d)) : Firm P R (Go.underlying t >>= f) := fun w x w' hr => by
 rw [Sem.run_bind, run_underlying h w] at hr
 obtain ⟨rfl, h2⟩ := hf w x w' hr
 exact ⟨rfl, fun w2 k => by rw [Sem.run_bind, run_underlying h w2]; exact h2 w2 k⟩
theorem Firm.convertInt {src dst : TypeId} {k : IntKind} {kd : IntKind} {n : Int} (h : P.underlying dst = some (.int kd)) : Firm P R (Go.convert src dst (.int k n)) := by
 unfold Go.convert
 refine .bind (.underlying src) fun d => .underlying_bind h ?_
 split <;> rename_i h1 h2 <;> first | (cases h1; done) | (cases h2; done) | exact .pure _ | skip
 all_goals first | (rename_i h3 _; cases h3; done) | (rename_i h3; cases h3; done) | exact .pure _ | exact .stuck _ | exact .unsupported _ | skip
 all_goals simp_all
theorem Firm.convertFloat {src dst : TypeId} {k : IntKind} {kd : FloatKind} {n : Int} (h : P.underlying dst = some (.float kd)) : Firm P R (Go.convert src dst (.int k n)) := by
 unfold Go.convert
 refine .bind (.underlying src) fun d => .underlying_bind h ?_
 split <;> rename_i h1 h2 <;> first | (cases h1; done) | (cases h2; done) | exact .pure _ | skip
 all_goals first | (rename_i h3 _; cases h3; done) | (rename_i h3; cases h3; done) | exact .pure _ | exact .stuck _ | exact .unsupported _ | skip
 all_goals simp_all
theorem Firm.complex (ts : Array TypeId) (t : TypeId) {xs : Array Value} {k k' : FloatKind} {a b : Nat} (h : xs.toList = [.float k a, .float k' b]) : Firm P R (Builtin.complex_ ts t xs) := by
 obtain rfl : xs = #[.float k a, .float k' b] := Array.toList_inj.1 h
 exact .ite (c := k = k') (.pure (Value.complex k a b)) (.stuck _)
theorem Firm.real (ts : Array TypeId) (t : TypeId) {xs : Array Value} {k : FloatKind} {a b : Nat} (h : xs.toList = [.complex k a b]) : Firm P R (Builtin.real_ ts t xs) := by
 obtain rfl : xs = #[.complex k a b] := Array.toList_inj.1 h
 exact .pure (Value.float k a)
theorem Firm.imag (ts : Array TypeId) (t : TypeId) {xs : Array Value} {k : FloatKind} {a b : Nat} (h : xs.toList = [.complex k a b]) : Firm P R (Builtin.imag_ ts t xs) := by
 obtain rfl : xs = #[.complex k a b] := Array.toList_inj.1 h
 exact .pure (Value.float k b)
theorem Firm.len (ts : Array TypeId) (t : TypeId) (xs : Array Value) : Firm P Keep (Builtin.len_ ts t xs) := by
 unfold Builtin.len_
 split
 ·refine .bind (.underlying _) fun d => ?_
  split
  ·exact .pure _
  ·exact .pure _
  ·refine .bind (.underlying _) fun d => ?_
   split
   ·exact .pure _
   ·exact .stuck _
  ·exact .pure _
  ·exact .pure _
  ·exact .pure _
  ·refine .bind (.getObj _) fun o => ?_
   split
   ·exact .pure _
   ·exact .stuck _
  ·refine .bind (.getObj _) fun o => ?_
   split
   ·exact .pure _
   ·exact .stuck _
  ·exact .stuck _
 ·exact .stuck _
theorem Firm.zeroValue (t : TypeId) : Firm P R (Go.zeroValue t) := by
 unfold Go.zeroValue
 refine .bind (.typeInfo t) fun i => ?_
 split
 ·exact .pure _
 ·exact .unsupported _
theorem sem_bind_pure {α : Type} (e : Sem α) : e.bind Sem.pure = e := by
 induction e <;> simp_all [Sem.bind]
 rename_i h; funext b; cases b <;> simp [h]
theorem sem_bind_assoc {α β γ : Type} (e : Sem α) (f : α → Sem β) (g : β → Sem γ) : (e.bind f).bind g = e.bind fun a => (f a).bind g := by
 induction e <;> simp_all [Sem.bind]
 rename_i h; funext b; cases b <;> simp [h]
theorem lawful : LawfulMonad Sem := LawfulMonad.mk' Sem (id_map := fun e => sem_bind_pure e) (pure_bind := fun _ _ => rfl) (bind_assoc := fun e f g => sem_bind_assoc e f g)
theorem Firm.foldlM {α β : Type} {f : β → α → Sem β} (hf : ∀ b a, Firm P R (f b a)) : ∀ (l : List α) (b : β), Firm P R (l.foldlM f b)
 | [], b => by rw [List.foldlM_nil]; exact .pure _
 | a :: l, b => by rw [List.foldlM_cons]; exact .bind (hf _ _) fun _ => Firm.foldlM hf l _
theorem Firm.mapM {α β : Type} {f : α → Sem β} (hf : ∀ a, Firm P R (f a)) (as : Array α) : Firm P R (as.mapM f) := by
 have := lawful
 rw [Array.mapM_eq_foldlM, ← Array.foldlM_toList]
 exact .foldlM (fun b a => .bind (hf a) fun _ => .pure _) _ _
theorem Firm.build (t : TypeId) (ps : Array (Nat × Value)) : Firm P R (Instr.build t ps) := by
 unfold Instr.build
 refine .bind (.zeroValue t) fun z => .bind (.underlying t) fun d => ?_
 split
 ·refine .bind (.mapM (fun f => .bind (.sizeOf _) fun _ => .pure _) _) fun pl => ?_
  split
  ·exact .pure _
  ·exact .stuck _
 ·refine .bind (.sizeOf _) fun n => ?_
  split
  ·exact .pure _
  ·exact .stuck _
 ·exact .stuck _
def pureB (P : Program) (o : Op) (ρ : Operand → Value) : Bool :=
 match o with
 | .move _ | .assign _ | .pick .. | .field .. | .indexAddr .. | .index .. | .extract .. | .slice .. | .makeInterface .. | .unOp .. | .build .. => true
 | .fieldAddr s _ f => match P.underlying s with
  | some (.struct fs) => match fs[f]? with
   | some fl => ((P.info? fl.type).map (·.size)).any (· != 0)
   | none => false
  | _ => false
 | .nilCheck x => match ρ x with | .pointer (some _) | .func (.func _) _ _ => true | _ => false
 | .binOp _ _ x y _ => match ρ x, ρ y with
  | .int .., .int .. | .string .., .string .. | .bool .., .bool .. => true
  | _, _ => false
 | .convert _ dst x => match ρ x, P.underlying dst with | .int .., some (.int _) => true | .int .., some (.float _) => true | _, _ => false
 | .call c => match c.callee, (c.args.map ρ).toList with | .builtin .complex, [.float _ _, .float _ _] => true | .builtin .real, [.complex _ _ _] => true | .builtin .imag, [.complex _ _ _] => true | _, _ => false
 | _ => false
def firmB (P : Program) (o : Op) (ρ : Operand → Value) : Bool :=
 match o with
 | .load .. => true
 | .call c => match c.callee with | .builtin .len => true | _ => false
 | o => pureB P o ρ
def Value1 (s : Sem Value) : Sem Next := do pure (.value (← s))
theorem eqGuard_int (op : BinOp) (t : TypeId) (x y : Operand) (k k' : IntKind) (a b : Int) : eqGuard op t x y (.int k a) (.int k' b) = pure () := by
 unfold eqGuard; split <;> rfl
theorem eqGuard_string (op : BinOp) (t : TypeId) (x y : Operand) (a b : ByteArray) : eqGuard op t x y (.string a) (.string b) = pure () := by
 unfold eqGuard; split <;> rfl
theorem eqGuard_bool (op : BinOp) (t : TypeId) (x y : Operand) (a b : Bool) : eqGuard op t x y (.bool a) (.bool b) = pure () := by
 unfold eqGuard; split <;> rfl
theorem Firm.fieldAt {s : TypeId} {x : Value} {f : Nat} {fs : Array Field} {fl : Field} (hu : P.underlying s = some (.struct fs)) (hf : fs[f]? = some fl) (hs : ((P.info? fl.type).map (·.size)).any (· != 0) = true) :
  Firm P R (Instr.fieldAt s x f) := by
 unfold Instr.fieldAt
 refine .underlying_bind hu ?_
 dsimp only
 rw [hf]
 dsimp only
 refine .bind (.sureAddr _) fun a => .bind ?_ fun _ => .pure _
 cases hq : P.info? fl.type with
 | none => simp [hq] at hs
 | some i =>
  simp [hq] at hs
  intro w y w' hr
  simp [fieldPlace, Go.sizeOf, Go.typeInfo, hq, hs] at hr
  obtain ⟨rfl, rfl⟩ := hr
  exact ⟨rfl, fun w2 _ => by simp [fieldPlace, Go.sizeOf, Go.typeInfo, hq, hs]⟩
theorem firm_of_pureB {o : Oper} {ρ : Operand → Value} (h : pureB P o.op ρ = true) : ∃ s, Firm P R s ∧ execOp ρ o = Value1 s := by
 obtain ⟨dst, op, type, pos, after, guard⟩ := o
 cases op <;> simp only [pureB] at h <;> try (cases h; done)
 case move x => exact ⟨pure (ρ x), .pure _, rfl⟩
 case assign x => exact ⟨pure (ρ x), .pure _, rfl⟩
 case pick c a b => exact ⟨do pure (if ← asBool (ρ c) then ρ a else ρ b), .bind (.asBool _) fun _ => .pure _, by
  simp only [execOp, Value1, bind, pure]
  cases hc : ρ c <;> rfl⟩
 case field t x f => exact ⟨_, .field t (ρ x) f, rfl⟩
 case indexAddr t x ix => exact ⟨_, .indexAt t (ρ x) (ρ ix), rfl⟩
 case index t x ix => exact ⟨_, .index t (ρ x) (ρ ix), rfl⟩
 case extract x i => exact ⟨_, .extract (ρ x) i, rfl⟩
 case slice t x lo hi mx => exact ⟨_, .sliceAt t (ρ x) (lo.map ρ) (hi.map ρ) (mx.map ρ), rfl⟩
 case makeInterface t x => exact ⟨_, .makeInterface t (ρ x), rfl⟩
 case unOp u t x => exact ⟨_, .unary u (ρ x), rfl⟩
 case build t ps => exact ⟨_, .build t (ps.map fun (i, x) => (i, ρ x)), rfl⟩
 case fieldAddr s x f =>
  split at h
  ·rename_i fs hu
   split at h
   ·rename_i fl hf
    exact ⟨_, .fieldAt hu hf h, rfl⟩
   ·cases h
  ·cases h
 case nilCheck x =>
  split at h
  ·rename_i a ha; exact ⟨pure (.pointer (some a)), .pure _, by simp only [execOp, ha]; rfl⟩
  ·rename_i f p q ha; exact ⟨pure (.func (.func f) p q), .pure _, by simp only [execOp, ha]; rfl⟩
  ·cases h
 case binOp op t x y yt =>
  split at h
  ·rename_i k a k' b hx hy
   refine ⟨Go.binOp op t (.int k a) (.int k' b), .intOps op t k k' a b, ?_⟩
   simp only [execOp, hx, hy, eqGuard_int, Value1]; rfl
  ·rename_i a b hx hy
   refine ⟨Go.binOp op t (.string a) (.string b), .stringOps op t a b, ?_⟩
   simp only [execOp, hx, hy, eqGuard_string, Value1]; rfl
  ·rename_i a b hx hy
   refine ⟨Go.binOp op t (.bool a) (.bool b), .boolOps op t a b, ?_⟩
   simp only [execOp, hx, hy, eqGuard_bool, Value1]; rfl
  ·cases h
 case convert src dst x =>
  split at h
  ·rename_i k n kd hx hd
   exact ⟨_, .convertInt (src := src) (k := k) (n := n) hd, by simp only [execOp, hx]; rfl⟩
  ·rename_i k n kd hx hd
   exact ⟨_, .convertFloat (src := src) (k := k) (n := n) hd, by simp only [execOp, hx]; rfl⟩
  ·cases h
 case call c =>
  split at h
  ·rename_i hc hx
   exact ⟨_, .complex c.argTypes type hx, by simp only [execOp, resolve, hc]; rfl⟩
  ·rename_i hc hx
   exact ⟨_, .real c.argTypes type hx, by simp only [execOp, resolve, hc]; rfl⟩
  ·rename_i hc hx
   exact ⟨_, .imag c.argTypes type hx, by simp only [execOp, resolve, hc]; rfl⟩
  ·cases h
theorem firm_of_firmB {o : Oper} {ρ : Operand → Value} (h : firmB P o.op ρ = true) : ∃ s, Firm P Keep s ∧ execOp ρ o = Value1 s := by
 unfold firmB at h
 split at h
 ·rename_i t x ho
  obtain ⟨dst, op, type, pos, after, guard⟩ := o
  dsimp only at ho; subst ho
  exact ⟨_, .loadAt t (ρ x), rfl⟩
 ·rename_i c ho
  obtain ⟨dst, op, type, pos, after, guard⟩ := o
  dsimp only at ho; subst ho
  split at h
  ·rename_i hc
   exact ⟨_, .len c.argTypes type (c.args.map ρ), by simp only [execOp, resolve, hc]; rfl⟩
  ·cases h
 ·exact firm_of_pureB h
def Calm (Q : Exit → Act → World → Prop) : Exit → Act → World → Prop
 | .panic _, _, _ => False
 | e, a, w => Q e a w
theorem Calm.imp {Q : Exit → Act → World → Prop} : ∀ (e : Exit) (a : Act) (w : World), Calm Q e a w → Q e a w := fun e a w h => by
 cases e <;> first | exact h | exact (h : False).elim
theorem upon_monoQ {o : Oper} {a : Act} {w : World} {K : Act → World → Prop} {Q Q' : Exit → Act → World → Prop} (hq : ∀ e a w, Q e a w → Q' e a w) (h : o.wp P a w K Q) : o.wp P a w K Q' := by
 unfold Oper.wp at *
 generalize (execOp a.eval o).run P w = r at *
 cases r with
 | ok n w' =>
  cases n <;> simp only [Oper.upon] at h ⊢ <;> first
   | exact h
   | exact h.mono (fun e w'' he => by
     cases e
     ·exact he
     ·exact hq _ _ _ he
     ·obtain ⟨a0, w0, h0⟩ := he; exact ⟨a0, w0, hq _ _ _ h0⟩)
 | halt x w' => cases x <;> simp only [Oper.upon] at h ⊢ <;> first | exact h | exact hq _ _ _ h
theorem wpOp_monoQ {ops : Array Oper} {i : Nat} {a : Act} {w : World} {K : Act → World → Prop} {Q Q' : Exit → Act → World → Prop} (hq : ∀ e a w, Q e a w → Q' e a w) (h : wpOp P ops Q i K a w) : wpOp P ops Q' i K a w := by
 unfold wpOp at *
 split
 ·rename_i hn; simpa [hn] using h
 ·rename_i o ho
  simp only [ho] at h
  split
  ·rename_i hw
   simp only [hw, if_true] at h
   rcases h with h | ⟨h1, a0, w0, h0⟩
   ·exact .inl (upon_monoQ hq h)
   ·exact .inr ⟨h1, a0, w0, hq _ _ _ h0⟩
  ·rename_i hw; simp only [hw] at h; exact h
section
variable {ops : Array Oper} {Q : Exit → Act → World → Prop} {md : Region.Mode}
def wpAnyX (P : Program) (md : Region.Mode) (ops : Array Oper) (Q : Exit → Act → World → Prop) (X : Nat → Bool) : Nat → Array Bool → Act → World → Prop
 | 0, listed, a, w => Region.ready md ops listed = [] ∧ Q .normal a w
 | f + 1, listed, a, w =>
  (Region.ready md ops listed = [] → Q .normal a w) ∧
  ∀ i ∈ Region.ready md ops listed, wpOp P ops Q i (fun a' w' => (X i = false → Keep w w') ∧ wpAnyX P md ops Q X f (listed.setIfInBounds i true) a' w') a w
theorem wpAny_of_X {X : Nat → Bool} {Q' : Exit → Act → World → Prop} (hq : ∀ e a w, Q e a w → Q' e a w) :
  ∀ (f : Nat) (listed : Array Bool) (a : Act) (w : World), wpAnyX P md ops Q X f listed a w → wpAny P md ops Q' f listed a w
 | 0, _, _, _, h => ⟨h.1, hq _ _ _ h.2⟩
 | f + 1, _, _, _, h => ⟨fun h0 => hq _ _ _ (h.1 h0), fun i hi => wpOp_mono (fun a' w' h' => wpAny_of_X hq f _ a' w' h'.2) (wpOp_monoQ hq (h.2 i hi))⟩
def behindB (md : Region.Mode) (ops : Array Oper) : Nat → Nat → Nat → Bool
 | 0, _, _ => false
 | f + 1, x, i => Region.waitsFor md ops x i || (match ops[x]? with
  | some o => o.after.any fun e => Region.binds md e && behindB md ops f e.on i
  | none => false)
structure Shut (md : Region.Mode) (ops : Array Oper) (listed : Array Bool) : Prop where
 size : listed.size = ops.size
 closed : ∀ j oj, ops[j]? = some oj → listed.getD j false = true → ∀ e ∈ oj.after, Region.binds md e = true → listed.getD e.on false = true
theorem Shut.set {i : Nat} {listed : Array Bool} (inv : Shut md ops listed) (hi : i ∈ Region.ready md ops listed) : Shut md ops (listed.setIfInBounds i true) := by
 obtain ⟨_, oi, hoi, hall⟩ := mem_ready.1 hi
 refine ⟨by simp [inv.size], fun j oj hj hl e he hb => ?_⟩
 by_cases hij : i = j
 ·subst hij
  have : oj = oi := Option.some.inj (hj.symm.trans hoi)
  subst this
  exact getD_set_true (hall e he hb)
 ·rw [getD_set_ne false hij] at hl
  exact getD_set_true (inv.closed j oj hj hl e he hb)
theorem Shut.behind {listed : Array Bool} (inv : Shut md ops listed) {i : Nat} : ∀ (f x : Nat), behindB md ops f x i = true → (∀ o, ops[x]? = some o → ∀ e ∈ o.after, Region.binds md e = true → listed.getD e.on false = true) → listed.getD i false = true
 | 0, _, h, _ => by simp [behindB] at h
 | f + 1, x, h, hx => by
  simp only [behindB, Bool.or_eq_true] at h
  rcases h with h | h
  ·obtain ⟨o, ho, e, he, hb, hon⟩ := Region.waitsFor_spec h
   rw [← hon]; exact hx o ho e he hb
  ·split at h
   ·rename_i o ho
    obtain ⟨e, he, hh⟩ := Array.any_eq_true'.1 h
    simp only [Bool.and_eq_true] at hh
    have hl := hx o ho e he hh.1
    exact Shut.behind inv f e.on hh.2 fun o' ho' e' he' hb' => inv.closed e.on o' ho' hl e' he' hb'
   ·cases h
theorem yieldsIf_keep {o : Oper} {v : Value} {a : Act} {w w' : World} (h : YieldsIf P ops (Keep w) o v a) (k : Keep w w') : YieldsIf P ops (Keep w') o v a :=
 h.imp (fun ⟨hw, hv⟩ => ⟨hw, fun w2 k2 => hv w2 (k.trans k2)⟩) id
theorem wpAnyX_first {X : Nat → Bool} {i : Nat} {oi : Oper} {v : Value} {G : World → World → Prop} (hG : ∀ w, G w w) (hi : ops[i]? = some oi) (hsel : ∀ (j : Nat) (o : Oper) cs b, ops[j]? = some o → o.op ≠ .select cs b)
  (hXi : X i = false) (hQ : ∀ c a w, Q (.panic c) (a.put oi.dst v) w → Q (.panic c) a w) (hyG : ∀ {w w' : World} {a : Act}, YieldsIf P ops (G w) oi v a → G w w' → YieldsIf P ops (G w') oi v a)
  (hKG : ∀ {w w' : World} (j : Nat) (listed : Array Bool), Shut md ops listed → listed.getD i false = false → j ∈ Region.ready md ops listed → (X j = false → Keep w w') → G w w') :
  ∀ (f : Nat) (listed : Array Bool) (a : Act) (w : World), Shut md ops listed →
   (∀ j oj, ops[j]? = some oj → j ≠ i → listed.getD j true = false → (∀ e ∈ oj.after, Region.binds md e = true → e.on ≠ i) → oi.apart ops oj = true) →
   i ∈ Region.ready md ops listed → YieldsIf P ops (G w) oi v a →
   wpAnyX P md ops Q X f (listed.setIfInBounds i true) (a.put oi.dst v) w → wpAnyX P md ops Q X (f + 1) listed a w := by
 intro f
 induction f with
 | zero =>
  intro listed a w inv _ hr hy H
  refine ⟨fun h => (by rw [h] at hr; cases hr), fun j hj => ?_⟩
  by_cases hji : j = i
  ·subst hji; exact hy.wpOp hi (hG w) ⟨fun _ => Keep.refl w, H⟩
  ·have := ready_mono hj hji
   rw [H.1] at this
   cases this
 | succ f ih =>
  intro listed a w inv hfree hr hy H
  have hun := (mem_ready.1 hr).1
  refine ⟨fun h => (by rw [h] at hr; cases hr), fun j hj => ?_⟩
  by_cases hji : j = i
  ·subst hji; exact hy.wpOp hi (hG w) ⟨fun _ => Keep.refl w, H⟩
  ·have h1 := H.2 j (ready_mono hj hji)
   obtain ⟨hjun, oj, hoj, hall⟩ := mem_ready.1 hj
   have hnot : ∀ e ∈ oj.after, Region.binds md e = true → e.on ≠ i := fun e he hb heq => by
    have h1 := hall e he hb
    rw [heq, getD_both hun] at h1
    cases h1
   have h2 := wpOp_putIf hoj (hfree j oj hoj hji hjun hnot) (fun cs b => hsel i oi cs b hi) (fun cs b => hsel j oj cs b hoj) hQ hy h1
   have hfree' : ∀ k ok, ops[k]? = some ok → k ≠ i → (listed.setIfInBounds j true).getD k true = false →
     (∀ e ∈ ok.after, Region.binds md e = true → e.on ≠ i) → oi.apart ops ok = true := fun k ok hk hki hun hno => by
    refine hfree k ok hk hki ?_ hno
    by_cases hjk : j = k
    ·subst hjk; exact hjun
    ·rw [getD_set_ne true hjk] at hun; exact hun
   refine wpOp_mono (fun a' w' h3 => ⟨h3.2.1, ih (listed.setIfInBounds j true) a' w' (inv.set hj) hfree' (ready_mono hr (Ne.symm hji)) (hyG h3.1 (hKG j listed inv (getD_both hun) hj h3.2.1)) ?_⟩) h2
   rw [Array.setIfInBounds_comm _ _ hji]
   exact h3.2.2
def NoQ : Exit → Act → World → Prop := fun _ _ _ => False
inductive PT (α : Type) where
 | done (tail : List α)
 | op (o : α) (k : Nat) (rest : PT α)
 | fork (o : α) (t : PT α) (o' : α) (t' : PT α)
def PT.map {α β : Type} (f : α → β) : PT α → PT β
 | .done l => .done (l.map f)
 | .op o k t => .op (f o) k (t.map f)
 | .fork o t o' t' => .fork (f o) (t.map f) (f o') (t'.map f)
def keepStep (P : Program) (ops : Array Oper) (Q : Exit → Act → World → Prop) (o : Oper) (K : Act → World → Prop) (a : Act) (w : World) : Prop :=
 if Region.wanted o (yielded ops a.tmps) then o.wp P a w (fun a' w' => Keep w w' ∧ K a' w') (Calm Q) ∨ (o.asks P a w ∧ LetsOut (Calm Q)) else K (a.put o.dst undef) w
def wpPlan (P : Program) (ops : Array Oper) (Q : Exit → Act → World → Prop) : PT Oper → Act → World → Prop
 | .done l, a, w => wpList P ops (Calm Q) l a w
 | .op o k t, a, w =>
  match k with
  | 0 => if Region.wanted o (yielded ops a.tmps) then firmB P o.op a.eval = true ∧ o.wp P a w (wpPlan P ops Q t) NoQ else wpPlan P ops Q t (a.put o.dst undef) w
  | 3 => if Region.wanted o (yielded ops a.tmps) then pureB P o.op a.eval = true ∧ o.wp P a w (wpPlan P ops Q t) NoQ else wpPlan P ops Q t (a.put o.dst undef) w
  | _ => keepStep P ops Q o (wpPlan P ops Q t) a w
 | .fork o t o' t', a, w => keepStep P ops Q o (wpPlan P ops Q t) a w ∧ keepStep P ops Q o' (wpPlan P ops Q t') a w
def tailB (md : Region.Mode) (ops : Array Oper) (X : List Nat) : List Nat → Nat → Array Bool → Bool
 | [], f, listed => f == 0 && (Region.ready md ops listed).isEmpty
 | _ :: _, 0, _ => false
 | t :: ts, f + 1, listed => X.contains t && decide (Region.ready md ops listed = [t]) && tailB md ops X ts f (listed.setIfInBounds t true)
def goB (md : Region.Mode) (ops : Array Oper) (X : List Nat) : PT Nat → Nat → Array Bool → Bool
 | .done l, f, listed => tailB md ops X l f listed
 | .op _ _ _, 0, _ => false
 | .op i k t, f + 1, listed => !X.contains i && (match k with
  | 0 => (Region.ready md ops listed).contains i && Region.free md ops listed i && X.all fun x => behindB md ops 6 x i
  | 3 => (Region.ready md ops listed).contains i && Region.free md ops listed i
  | _ => decide (Region.ready md ops listed = [i])) && goB md ops X t f (listed.setIfInBounds i true)
 | .fork _ _ _ _, 0, _ => false
 | .fork i t j t', f + 1, listed => !X.contains i && !X.contains j && decide (Region.ready md ops listed = [i, j]) && goB md ops X t f (listed.setIfInBounds i true) && goB md ops X t' f (listed.setIfInBounds j true)
def planB (ops : Array Oper) (plan : PT Nat) (X : List Nat) : Bool :=
 Region.noSelect ops && goB .any ops X plan ops.size (Array.replicate ops.size false)
theorem get_ready {i : Nat} {listed : Array Bool} (h : i ∈ Region.ready md ops listed) : ops[i]? = some (ops.toList.getD i default) := by
 obtain ⟨_, o, ho, _⟩ := mem_ready.1 h
 simp [ho]
theorem wpAnyX_tail {X : List Nat} : ∀ (ts : List Nat) (f : Nat) (listed : Array Bool) (a : Act) (w : World), tailB md ops X ts f listed = true →
  wpList P ops Q (ts.map fun i => ops.toList.getD i default) a w → wpAnyX P md ops Q (fun i => X.contains i) f listed a w
 | [], f, listed, _, _, hB, h => by
  simp only [tailB, Bool.and_eq_true, beq_iff_eq, List.isEmpty_iff] at hB
  obtain ⟨rfl, hB⟩ := hB
  exact ⟨hB, h⟩
 | t :: ts, 0, _, _, _, hB, _ => by simp [tailB] at hB
 | t :: ts, f + 1, listed, a, w, hB, h => by
  simp only [tailB, Bool.and_eq_true, decide_eq_true_eq] at hB
  obtain ⟨⟨hX, hr⟩, hB'⟩ := hB
  have ho := get_ready (i := t) (by rw [hr]; simp)
  simp only [List.map_cons] at h
  generalize ops.toList.getD t default = o at *
  refine ⟨fun h1 => (by rw [hr] at h1; cases h1), fun i hi => ?_⟩
  rw [hr] at hi
  obtain rfl : i = t := by simpa using hi
  have hw : wpOp P ops Q i (wpList P ops Q (ts.map fun i => ops.toList.getD i default)) a w := by unfold wpOp; simp only [ho]; exact h
  exact wpOp_mono (fun a' w' h' => ⟨fun hx => (by have hx' : X.contains i = false := hx; rw [hX] at hx'; cases hx'), wpAnyX_tail ts f _ a' w' hB' h'⟩) hw
theorem wpOp_of_keepStep {X : List Nat} {f i : Nat} {listed : Array Bool} {o : Oper} {K : Act → World → Prop} {a : Act} {w : World} (hi : ops[i]? = some o)
  (hK : ∀ a' w', K a' w' → wpAnyX P md ops (Calm Q) (fun i => X.contains i) f (listed.setIfInBounds i true) a' w') (h : keepStep P ops Q o K a w) :
  wpOp P ops (Calm Q) i (fun a' w' => (X.contains i = false → Keep w w') ∧ wpAnyX P md ops (Calm Q) (fun i => X.contains i) f (listed.setIfInBounds i true) a' w') a w := by
 unfold keepStep at h
 unfold wpOp
 simp only [hi]
 split
 ·rename_i hw
  simp only [hw, if_true] at h
  exact h.imp (fun h1 => Oper.wp_mono (fun a' w' h2 => ⟨fun _ => h2.1, hK _ _ h2.2⟩) h1) id
 ·rename_i hw
  simp only [hw] at h
  exact ⟨fun _ => Keep.refl w, hK _ _ h⟩
theorem taken {G : World → World → Prop} {s : Sem Value} {o : Oper} {a : Act} {w : World} {K : Act → World → Prop} (hs : Firm P G s) (he : execOp a.eval o = Value1 s) (hw : Region.wanted o (yielded ops a.tmps) = true) (hwp : o.wp P a w K NoQ) :
  ∃ v, YieldsIf P ops (G w) o v a ∧ K (a.put o.dst v) w := by
 unfold Oper.wp at hwp
 rw [he] at hwp
 unfold Value1 at hwp
 rw [Sem.run_bind] at hwp
 cases hrun : s.run P w with
 | halt q w1 => rw [hrun] at hwp; cases q <;> simp [Result.andThen, Oper.upon, NoQ] at hwp
 | ok v w1 =>
  rw [hrun] at hwp
  obtain ⟨rfl, hall⟩ := hs w v w1 hrun
  simp only [Result.andThen, Sem.run_pure, Oper.upon] at hwp
  refine ⟨v, .inl ⟨hw, fun w2 k2 => ?_⟩, hwp⟩
  rw [he]; unfold Value1; rw [Sem.run_bind, hall w2 k2]; simp only [Result.andThen, Sem.run_pure]
theorem wpAnyX_plan {X : List Nat} (hsel : Region.noSelect ops = true) :
  ∀ (p : PT Nat) (f : Nat) (listed : Array Bool) (a : Act) (w : World), Shut md ops listed →
   goB md ops X p f listed = true → wpPlan P ops Q (p.map fun i => ops.toList.getD i default) a w →
   wpAnyX P md ops (Calm Q) (fun i => X.contains i) f listed a w
 | .done l, f, listed, a, w, _, hB, h => wpAnyX_tail l f listed a w hB h
 | .op _ _ _, 0, _, _, _, _, hB, _ => by simp [goB] at hB
 | .fork _ _ _ _, 0, _, _, _, _, hB, _ => by simp [goB] at hB
 | .fork i t j t', f + 1, listed, a, w, inv, hB, h => by
  simp only [goB, Bool.and_eq_true, decide_eq_true_eq, Bool.not_eq_true'] at hB
  obtain ⟨⟨⟨⟨hXi, hXj⟩, hr⟩, hB1⟩, hB2⟩ := hB
  simp only [PT.map, wpPlan] at h
  have hi := get_ready (i := i) (by rw [hr]; simp)
  have hj := get_ready (i := j) (by rw [hr]; simp)
  have hri : i ∈ Region.ready md ops listed := by rw [hr]; simp
  have hrj : j ∈ Region.ready md ops listed := by rw [hr]; simp
  refine ⟨fun h0 => (by rw [h0] at hr; cases hr), fun k hk => ?_⟩
  have hk' : k = i ∨ k = j := by rw [hr] at hk; simpa using hk
  rcases hk' with rfl | rfl
  ·exact wpOp_of_keepStep hi (fun a' w' h' => wpAnyX_plan hsel t f _ a' w' (inv.set hri) hB1 h') h.1
  ·exact wpOp_of_keepStep hj (fun a' w' h' => wpAnyX_plan hsel t' f _ a' w' (inv.set hrj) hB2 h') h.2
 | .op i k p, f + 1, listed, a, w, inv, hB, h => by
  simp only [goB, Bool.and_eq_true, Bool.not_eq_true'] at hB
  obtain ⟨⟨hXi, hk⟩, hB'⟩ := hB
  simp only [PT.map, wpPlan] at h
  have takeK : ∀ v o, ops[i]? = some o → YieldsIf P ops (Keep w) o v a → (Region.ready md ops listed).contains i = true → Region.free md ops listed i = true → (X.all fun x => behindB md ops 6 x i) = true → wpPlan P ops Q (p.map fun i => ops.toList.getD i default) (a.put o.dst v) w →
    wpAnyX P md ops (Calm Q) (fun i => X.contains i) (f + 1) listed a w := fun v o hi hy hr hf hb hK =>
   wpAnyX_first (G := Keep) Keep.refl hi (Region.noSelect_spec hsel) hXi (fun _ _ _ h => h) yieldsIf_keep
    (fun j l2 inv2 hu hj hX => hX (by
     cases hc : X.contains j with
     | false => rfl
     | true =>
      exfalso
      have hbj := List.all_eq_true.1 hb j (by simpa using hc)
      obtain ⟨_, oj, hoj, hall⟩ := mem_ready.1 hj
      have := Shut.behind inv2 6 j hbj (fun o' ho' e he hbb => hall e (by rw [hoj] at ho'; cases ho'; exact he) hbb)
      rw [hu] at this; cases this))
    _ listed a w inv (Region.free_spec hi hf) (by simpa using hr) hy
    (wpAnyX_plan hsel p f _ _ _ (inv.set (by simpa using hr)) hB' hK)
  have takeP : ∀ v o, ops[i]? = some o → YieldsIf P ops (fun _ => True) o v a → (Region.ready md ops listed).contains i = true → Region.free md ops listed i = true → wpPlan P ops Q (p.map fun i => ops.toList.getD i default) (a.put o.dst v) w →
    wpAnyX P md ops (Calm Q) (fun i => X.contains i) (f + 1) listed a w := fun v o hi hy hr hf hK =>
   wpAnyX_first (G := fun _ _ => True) (fun _ => trivial) hi (Region.noSelect_spec hsel) hXi (fun _ _ _ h => h) (fun h _ => h) (fun _ _ _ _ _ _ => trivial)
    _ listed a w inv (Region.free_spec hi hf) (by simpa using hr) hy
    (wpAnyX_plan hsel p f _ _ _ (inv.set (by simpa using hr)) hB' hK)
  have only : ∀ o, ops[i]? = some o → Region.ready md ops listed = [i] → keepStep P ops Q o (wpPlan P ops Q (p.map fun i => ops.toList.getD i default)) a w → wpAnyX P md ops (Calm Q) (fun i => X.contains i) (f + 1) listed a w := fun o hi hr hks => by
   have hr' : i ∈ Region.ready md ops listed := by rw [hr]; simp
   refine ⟨fun h0 => (by rw [h0] at hr; cases hr), fun j hj => ?_⟩
   rw [hr] at hj
   obtain rfl : j = i := by simpa using hj
   exact wpOp_of_keepStep hi (fun a' w' h' => wpAnyX_plan hsel p f _ a' w' (inv.set hr') hB' h') hks
  match k, hk, h with
  | 0, hk, h =>
   simp only [Bool.and_eq_true] at hk
   obtain ⟨⟨hr, hf⟩, hb⟩ := hk
   have hi := get_ready (i := i) (by simpa using hr)
   by_cases hw : Region.wanted (ops.toList.getD i default) (yielded ops a.tmps) = true
   ·simp only [hw, if_true] at h
    obtain ⟨s, hs, he⟩ := firm_of_firmB h.1
    obtain ⟨v, hy, hK⟩ := taken hs he hw h.2
    exact takeK v _ hi hy hr hf hb hK
   ·simp only [hw] at h
    exact takeK undef _ hi (.inr ⟨by simpa using hw, rfl⟩) hr hf hb h
  | 3, hk, h =>
   simp only [Bool.and_eq_true] at hk
   obtain ⟨hr, hf⟩ := hk
   have hi := get_ready (i := i) (by simpa using hr)
   by_cases hw : Region.wanted (ops.toList.getD i default) (yielded ops a.tmps) = true
   ·simp only [hw, if_true] at h
    obtain ⟨s, hs, he⟩ := firm_of_pureB (R := fun _ _ => True) h.1
    obtain ⟨v, hy, hK⟩ := taken hs he hw h.2
    exact takeP v _ hi hy hr hf hK
   ·simp only [hw] at h
    exact takeP undef _ hi (.inr ⟨by simpa using hw, rfl⟩) hr hf h
  | 1, hk, h => exact only _ (get_ready (i := i) (by rw [of_decide_eq_true hk]; simp)) (by simpa using hk) h
  | 2, hk, h => exact only _ (get_ready (i := i) (by rw [of_decide_eq_true hk]; simp)) (by simpa using hk) h
  | _ + 4, hk, h => exact only _ (get_ready (i := i) (by rw [of_decide_eq_true hk]; simp)) (by simpa using hk) h
def row : List (Nat × Nat) → List Nat → PT Nat
 | [], tail => .done tail
 | (i, k) :: p, tail => .op i k (row p tail)
def rowFork : List (Nat × Nat) → Nat → List (Nat × Nat) → Nat → List (Nat × Nat) → List Nat → PT Nat
 | [], i, p, j, q, tail => .fork i (row p tail) j (row q tail)
 | (a, k) :: r, i, p, j, q, tail => .op a k (rowFork r i p j q tail)
theorem wp_region_plan {id : Nat} {a : Act} {w : World} {l : List Oper} (plan : PT Nat) (X : List Nat) (hm : P.follows .mixedOrders = true) (hB : planB l.toArray plan X = true)
  (h : wpPlan P l.toArray Q (plan.map fun i => l.getD i default) a w.drew) : (Code.region id l.toArray true).wp P Q a w := by
 simp only [planB, Bool.and_eq_true] at hB
 have inv0 : Shut .any l.toArray (Array.replicate l.toArray.size false) := ⟨by simp, fun j oj _ hl => (by rw [getD_replicate_false] at hl; cases hl)⟩
 exact wp_region_any hm (wpAny_of_X Calm.imp _ _ _ _ (wpAnyX_plan (Q := Q) hB.1 plan _ _ a w.drew inv0 hB.2 h))
theorem plan_done {a : Act} {w : World} {l : List Oper} (h : wpList P ops (Calm Q) l a w) : wpPlan P ops Q (.done l) a w := h
theorem plan_take {a : Act} {w : World} {o : Oper} {t : PT Oper} (hg : Region.wanted o (yielded ops a.tmps) = true) (hf : firmB P o.op a.eval = true)
  (h : ∀ K : Act → World → Prop, (∀ a' w', wpPlan P ops Q t a' w' → K a' w') → o.wp P a w K NoQ) : wpPlan P ops Q (.op o 0 t) a w := by
 unfold wpPlan
 simp only [hg, if_true]
 exact ⟨hf, h _ fun _ _ h => h⟩
theorem plan_pure {a : Act} {w : World} {o : Oper} {t : PT Oper} (hg : Region.wanted o (yielded ops a.tmps) = true) (hf : pureB P o.op a.eval = true)
  (h : ∀ K : Act → World → Prop, (∀ a' w', wpPlan P ops Q t a' w' → K a' w') → o.wp P a w K NoQ) : wpPlan P ops Q (.op o 3 t) a w := by
 unfold wpPlan
 simp only [hg, if_true]
 exact ⟨hf, h _ fun _ _ h => h⟩
theorem keep_step {a : Act} {w : World} {o : Oper} {T : Act → World → Prop} (hg : Region.wanted o (yielded ops a.tmps) = true)
  (h : ∀ K : Act → World → Prop, (∀ a' w', Keep w w' → T a' w' → K a' w') → o.wp P a w K (Calm Q)) : keepStep P ops Q o T a w := by
 unfold keepStep
 rw [if_pos hg]
 exact .inl (h _ fun _ _ h1 h2 => ⟨h1, h2⟩)
theorem plan_keep {a : Act} {w : World} {o : Oper} {t : PT Oper} (hg : Region.wanted o (yielded ops a.tmps) = true)
  (h : ∀ K : Act → World → Prop, (∀ a' w', Keep w w' → wpPlan P ops Q t a' w' → K a' w') → o.wp P a w K (Calm Q)) : wpPlan P ops Q (.op o 1 t) a w := by
 unfold wpPlan
 exact keep_step hg h
theorem plan_fork {a : Act} {w : World} {o o' : Oper} {t t' : PT Oper} (hg : Region.wanted o (yielded ops a.tmps) = true) (hg' : Region.wanted o' (yielded ops a.tmps) = true)
  (h : ∀ K : Act → World → Prop, (∀ a' w', Keep w w' → wpPlan P ops Q t a' w' → K a' w') → o.wp P a w K (Calm Q))
  (h' : ∀ K : Act → World → Prop, (∀ a' w', Keep w w' → wpPlan P ops Q t' a' w' → K a' w') → o'.wp P a w K (Calm Q)) : wpPlan P ops Q (.fork o t o' t') a w := by
 unfold wpPlan
 exact ⟨keep_step hg h, keep_step hg' h'⟩
theorem plan_skip {a : Act} {w : World} {o : Oper} {k : Nat} {t : PT Oper} (hg : Region.wanted o (yielded ops a.tmps) = false)
  (h : wpPlan P ops Q t (a.put o.dst undef) w) : wpPlan P ops Q (.op o k t) a w := by
 unfold wpPlan keepStep
 simp only [hg]
 split <;> exact h
theorem calm_normal {a : Act} {w : World} (h : Q .normal a w) : Calm Q .normal a w := h
end
end Go.Rg

end
section
namespace Go.Rg
open Go Go.RowKit Go.Rw
variable {P : Program}
structure Flo where
 i : Nat
 d : Tmp
 deps : List Nat
 fresh : Bool
 J : Value → World → Prop
def vblk : Value → Nat
 | .pointer (some a) => a.block
 | .slice (some a) _ _ => a.block
 | _ => 0
def puts (us : Nat → Value) : List Flo → Act → Act
 | [], a => a
 | r :: R, a => puts us R (a.put (some r.d) (us r.i))
def upd (us : Nat → Value) (i : Nat) (v : Value) (j : Nat) : Value := if j = i then v else us j
theorem put_put_same (a : Act) (d : Tmp) (u v : Value) : (a.put (some d) u).put (some d) v = a.put (some d) v := by
 simp only [Act.put]
 congr 1
 apply Array.ext_getElem?
 intro i
 simp only [Array.getElem?_setIfInBounds, Array.size_setIfInBounds]
 split
 ·rename_i h; subst h; rfl
 ·rfl
theorem put_put_comm (a : Act) (d e : Tmp) (u v : Value) (h : d ≠ e) : (a.put (some d) u).put (some e) v = (a.put (some e) v).put (some d) u := by
 simp only [Act.put]
 congr 1
 exact Array.setIfInBounds_comm _ _ h
theorem puts_put (us : Nat → Value) : ∀ (R : List Flo) (a : Act) (d : Tmp) (v : Value), (∀ r ∈ R, r.d ≠ d) → (puts us R a).put (some d) v = puts us R (a.put (some d) v)
 | [], _, _, _, _ => rfl
 | r :: R, a, d, v, h => by
  have h0 : r.d ≠ d := h r (by simp)
  simp only [puts]
  rw [puts_put us R _ d v fun r' hr' => h r' (by simp [hr']), put_put_comm a r.d d _ v h0]
theorem puts_congr {us vs : Nat → Value} : ∀ (R : List Flo) (a : Act), (∀ r ∈ R, us r.i = vs r.i) → puts us R a = puts vs R a
 | [], _, _ => rfl
 | r :: R, a, h => by
  simp only [puts]
  rw [h r (by simp), puts_congr R _ fun r' hr' => h r' (by simp [hr'])]
theorem puts_upd (us : Nat → Value) : ∀ (R : List Flo) (a : Act) (r : Flo) (v : Value), r ∈ R → (R.map (·.i)).Nodup → (R.map (·.d)).Nodup → (puts us R a).put (some r.d) v = puts (upd us r.i v) R a
 | [], _, _, _, h, _, _ => by cases h
 | r0 :: R, a, r, v, h, hi, hd => by
  simp only [List.map_cons, List.nodup_cons] at hi hd
  rcases List.mem_cons.1 h with rfl | h
  ·simp only [puts]
   rw [puts_put us R _ r.d v fun r' hr' e => hd.1 (by rw [← e]; exact List.mem_map_of_mem hr'), put_put_same]
   have e0 : upd us r.i v r.i = v := by simp [upd]
   rw [e0]
   exact puts_congr R _ fun r' hr' => by
    have : r'.i ≠ r.i := fun e => hi.1 (by rw [← e]; exact List.mem_map_of_mem hr')
    simp [upd, this]
  ·simp only [puts]
   have e0 : upd us r.i v r0.i = us r0.i := by
    have : r0.i ≠ r.i := fun e => hi.1 (by rw [e]; exact List.mem_map_of_mem h)
    simp [upd, this]
   rw [puts_upd us R _ r v h hi.2 hd.2, e0]
def setAll : List Nat → Array Bool → Array Bool
 | [], L => L
 | i :: l, L => setAll l (L.setIfInBounds i true)
def floR (ops : Array Oper) (R : List (Nat × Tmp × List Nat)) (tail : List Nat) : Bool :=
 R.all fun r => (match ops[r.1]? with
  | some o => o.dst == some r.2.1 && o.guard.isNone && !tail.contains r.1 && r.2.2.all (fun x => Region.waitsFor .any ops r.1 x) && o.after.all fun e => !Region.binds .any e || (decide (e.on < ops.size) && !tail.contains e.on && (!(R.map (·.1)).contains e.on || decide (e.on < r.1)))
  | none => false) && tail.all fun t => behindB .any ops 4 t r.1
def floL (R : List (Nat × Tmp × List Nat)) (tail : List Nat) (L : Array Bool) : Bool :=
 (List.range L.size).all fun j => if (R.map (·.1)).contains j || tail.contains j then !L.getD j true else L.getD j false
def preB (ops : Array Oper) (R : List (Nat × Tmp × List Nat)) (tail : List Nat) : List (Nat × Nat) → Nat → Array Bool → Bool
 | [], f, listed => decide (f = R.length + tail.length) && floL R tail listed && tailB .any ops tail tail tail.length (setAll (R.map (·.1)) listed)
 | _ :: _, 0, _ => false
 | (i, k) :: p, f + 1, listed => !tail.contains i && (Region.ready .any ops listed).contains i && Region.free .any ops listed i && (k == 3 || (k == 0 && tail.all fun x => behindB .any ops 4 x i)) && preB ops R tail p f (listed.setIfInBounds i true)
def floB (ops : Array Oper) (pre : List (Nat × Nat)) (R : List (Nat × Tmp × List Nat)) (tail : List Nat) : Bool :=
 Region.noSelect ops && decide (R.map (·.1)).Nodup && decide (R.map (·.2.1)).Nodup && floR ops R tail && preB ops R tail pre ops.size (Array.replicate ops.size false)
def key (r : Flo) : Nat × Tmp × List Nat := (r.i, r.d, r.deps)
structure Phase (P : Program) (ops : Array Oper) (Q : Exit → Act → World → Prop) (R : List Flo) (tail : List Nat) (a0 : Act) (w0 : World) : Prop where
 stable : ∀ r ∈ R, ∀ v w w', Below w.heap.size w w' → r.J v w → r.J v w'
 exec : ∀ r ∈ R, ∀ us w, Below w0.heap.size w0 w → (∀ r' ∈ R, r'.i ∈ r.deps → r'.J (us r'.i) w) → ∀ K : Act → World → Prop,
  (∀ v a' w', a' = (puts us R a0).put (some r.d) v → r.J v w' → Below w.heap.size w w' → (r.fresh = true → w.heap.size ≤ vblk v ∧ vblk v < w'.heap.size) → K a' w') →
  (ops.toList.getD r.i default).wp P (puts us R a0) w K NoQ
 last : ∀ us w, Below w0.heap.size w0 w → (∀ r ∈ R, r.J (us r.i) w) → (∀ r ∈ R, r.fresh = true → w0.heap.size ≤ vblk (us r.i) ∧ vblk (us r.i) < w.heap.size) →
  (∀ r ∈ R, ∀ r' ∈ R, r.i ≠ r'.i → r.fresh = true → r'.fresh = true → vblk (us r.i) ≠ vblk (us r'.i)) → wpList P ops (Calm Q) (tail.map fun i => ops.toList.getD i default) (puts us R a0) w
theorem setAll_size : ∀ (l : List Nat) (L : Array Bool), (setAll l L).size = L.size
 | [], _ => rfl
 | i :: l, L => by rw [setAll, setAll_size]; simp
theorem setAll_getD : ∀ (l : List Nat) (L : Array Bool) (j : Nat), j < L.size → (setAll l L).getD j false = (l.contains j || L.getD j false)
 | [], _, _, _ => by simp [setAll]
 | i :: l, L, j, h => by
  rw [setAll, setAll_getD l _ j (by simpa using h)]
  by_cases e : i = j
  ·subst e; simp [h]
  ·have e' : ¬ j = i := fun x => e x.symm
   simp [Array.getElem?_setIfInBounds_ne e, e']
theorem exists_least : ∀ (S : List Nat), S ≠ [] → ∃ m ∈ S, ∀ s ∈ S, m ≤ s
 | [], h => absurd rfl h
 | [x], _ => ⟨x, by simp, by simp⟩
 | x :: y :: S, _ => by
  obtain ⟨m, hm, hle⟩ := exists_least (y :: S) (by simp)
  rcases Nat.le_total x m with h | h
  ·exact ⟨x, by simp, fun s hs => by
    rcases List.mem_cons.1 hs with rfl | hs
    ·exact Nat.le_refl _
    ·exact Nat.le_trans h (hle s hs)⟩
  ·exact ⟨m, List.mem_cons_of_mem _ hm, fun s hs => by
    rcases List.mem_cons.1 hs with rfl | hs
    ·exact h
    ·exact hle s hs⟩
theorem nodup_inj : ∀ {R : List Flo} {a b : Flo}, (R.map (·.i)).Nodup → a ∈ R → b ∈ R → a.i = b.i → a = b
 | [], _, _, _, h, _, _ => by cases h
 | r :: R, a, b, hn, ha, hb, e => by
  simp only [List.map_cons, List.nodup_cons] at hn
  rcases List.mem_cons.1 ha with h1 | h1 <;> rcases List.mem_cons.1 hb with h2 | h2
  ·rw [h1, h2]
  ·exact absurd (by rw [← h1, e]; exact List.mem_map_of_mem h2) hn.1
  ·exact absurd (by rw [← h2, ← e]; exact List.mem_map_of_mem h1) hn.1
  ·exact nodup_inj hn.2 h1 h2 e
theorem wpAnyX_flo {ops : Array Oper} {Q : Exit → Act → World → Prop} {R : List Flo} {tail : List Nat} {a0 : Act} {w0 : World} {L0 : Array Bool} (ph : Phase P ops Q R tail a0 w0)
  (hni : (R.map (·.i)).Nodup) (hnd : (R.map (·.d)).Nodup) (hR : floR ops (R.map key) tail = true) (hL : floL (R.map key) tail L0 = true) (hsz : L0.size = ops.size)
  (hT : tailB .any ops tail tail tail.length (setAll (R.map (·.i)) L0) = true) :
  ∀ (n : Nat) (S : List Nat) (L : Array Bool) (us : Nat → Value) (w : World), S.length = n → S.Nodup → (∀ s ∈ S, s ∈ R.map (·.i)) → L.size = ops.size →
   (∀ j, j < ops.size → L.getD j false = (!(S.contains j || tail.contains j))) → Shut .any ops L → Below w0.heap.size w0 w →
   (∀ r ∈ R, r.i ∉ S → r.J (us r.i) w ∧ (r.fresh = true → w0.heap.size ≤ vblk (us r.i) ∧ vblk (us r.i) < w.heap.size)) →
   (∀ r ∈ R, ∀ r' ∈ R, r.i ≠ r'.i → r.fresh = true → r'.fresh = true → r.i ∉ S → r'.i ∉ S → vblk (us r.i) ≠ vblk (us r'.i)) →
   wpAnyX P .any ops (Calm Q) (fun i => tail.contains i) (n + tail.length) L (puts us R a0) w := by
 have hkey : (R.map key).map (·.1) = R.map (·.i) := by simp [key]
 intro n
 induction n with
 | zero =>
  intro S L us w hS _ _ hLs hLv _ hb hJ hF
  obtain rfl : S = [] := List.eq_nil_of_length_eq_zero hS
  have hLe : L = setAll (R.map (·.i)) L0 := by
   apply Array.ext (by rw [setAll_size, hLs, hsz])
   intro j h1 h2
   have e1 := hLv j (by omega)
   have e2 := setAll_getD (R.map (·.i)) L0 j (by omega)
   have hlj := List.all_eq_true.1 hL j (by simp; omega)
   rw [hkey] at hlj
   have e3 : L.getD j false = (setAll (R.map (·.i)) L0).getD j false := by
    rw [e1, e2]
    have hj0 : j < L0.size := by omega
    by_cases hc : tail.contains j = true
    ·have hnr : (R.map (·.i)).contains j = false := by
      cases hq : (R.map (·.i)).contains j with
      | false => rfl
      | true =>
       exfalso
       obtain ⟨r, hr, hrj⟩ := List.mem_map.1 (by simpa using hq : j ∈ R.map (·.i))
       have := List.all_eq_true.1 hR (key r) (List.mem_map_of_mem hr)
       simp only [Bool.and_eq_true] at this
       have h3 := this.1
       split at h3
       ·simp only [Bool.and_eq_true, key] at h3
        have h4 := h3.1.1.2
        rw [hrj, hc] at h4; simp at h4
       ·cases h3
     rw [hnr, hc] at hlj
     have hf : L0.getD j true = false := by
      cases hq : L0.getD j true with
      | false => rfl
      | true => rw [hq] at hlj; simp at hlj
     rw [hnr, hc, getD_both hf]; rfl
    ·have hc' : tail.contains j = false := by simpa using hc
     rw [hc']
     cases hq : (R.map (·.i)).contains j
     ·rw [hq, hc'] at hlj
      have hf : L0.getD j false = true := by
       cases hq2 : L0.getD j false with
       | true => rfl
       | false => rw [hq2] at hlj; simp at hlj
      rw [hf]; rfl
     ·rfl
   simpa [h1, h2] using e3
  rw [hLe, Nat.zero_add]
  exact wpAnyX_tail tail _ _ _ _ hT (ph.last us w hb (fun r hr => (hJ r hr (by simp)).1) (fun r hr hf => (hJ r hr (by simp)).2 hf) fun r hr r' hr' hne h1 h2 => hF r hr r' hr' hne h1 h2 (by simp) (by simp))
 | succ n ih =>
  intro S L us w hS hSn hSR hLs hLv hSh hb hJ hF
  rw [show n + 1 + tail.length = (n + tail.length) + 1 by omega]
  have inR : ∀ s ∈ S, ∃ r ∈ R, r.i = s := fun s hs => by
   obtain ⟨r, hr, e⟩ := List.mem_map.1 (hSR s hs)
   exact ⟨r, hr, e⟩
  have facts : ∀ r ∈ R, ∃ o, ops[r.i]? = some o ∧ o.dst = some r.d ∧ o.guard = none ∧ tail.contains r.i = false ∧ (∀ x ∈ r.deps, Region.waitsFor .any ops r.i x = true) ∧
    (∀ e ∈ o.after, Region.binds .any e = true → e.on < ops.size ∧ tail.contains e.on = false ∧ ((R.map (·.i)).contains e.on = true → e.on < r.i)) ∧ (∀ t ∈ tail, behindB .any ops 4 t r.i = true) := fun r hr => by
   have h1 := List.all_eq_true.1 hR (key r) (List.mem_map_of_mem hr)
   rw [hkey] at h1
   simp only [Bool.and_eq_true, key] at h1
   obtain ⟨h1, h2⟩ := h1
   cases ho : ops[r.i]? with
   | none => rw [ho] at h1; cases h1
   | some o =>
    rw [ho] at h1
    simp only [Bool.and_eq_true, beq_iff_eq, Option.isNone_iff_eq_none, Bool.not_eq_true', List.all_eq_true, Array.all_eq_true', Bool.or_eq_true, decide_eq_true_eq] at h1
    refine ⟨o, rfl, h1.1.1.1.1, h1.1.1.1.2, h1.1.1.2, h1.1.2, fun e he hbd => ?_, List.all_eq_true.1 h2⟩
    rcases h1.2 e he with h | h
    ·rw [hbd] at h; cases h
    ·exact ⟨h.1.1, h.1.2, fun hc => by
      rcases h.2 with h' | h'
      ·rw [hc] at h'; cases h'
      ·exact of_decide_eq_true h'⟩
  refine ⟨fun h0 => ?_, fun i hi => ?_⟩
  ·exfalso
   obtain ⟨m, hm, hle⟩ := exists_least S (by intro e; subst e; simp at hS)
   obtain ⟨r, hr, rfl⟩ := inR m hm
   obtain ⟨o, ho, -, -, -, -, hafter, -⟩ := facts r hr
   have hlt : r.i < ops.size := (Array.getElem?_eq_some_iff.1 ho).1
   have hrd : r.i ∈ Region.ready .any ops L := by
    rw [mem_ready]
    refine ⟨getD_in (by omega) (by rw [hLv _ hlt]; simp [hm]), o, ho, fun e he hbd => ?_⟩
    obtain ⟨h1, h2, h3⟩ := hafter e he hbd
    rw [hLv _ h1, h2]
    have : S.contains e.on = false := by
     cases hq : S.contains e.on with
     | false => rfl
     | true =>
      exfalso
      have hq' : e.on ∈ S := by simpa using hq
      have := h3 (by simpa using hSR _ hq')
      have := hle _ hq'
      omega
    rw [this]; rfl
   rw [h0] at hrd; cases hrd
  ·obtain ⟨hun, oi, hoi, hall⟩ := mem_ready.1 hi
   have hilt : i < ops.size := (Array.getElem?_eq_some_iff.1 hoi).1
   have hi0 := getD_both hun
   rw [hLv i hilt] at hi0
   have hiS : i ∈ S := by
    cases hq : S.contains i with
    | true => simpa using hq
    | false =>
     exfalso
     rw [hq] at hi0
     have hit : i ∈ tail := by simpa using hi0
     obtain ⟨m, hm, _⟩ := exists_least S (by intro e; subst e; simp at hS)
     obtain ⟨r, hr, rfl⟩ := inR m hm
     obtain ⟨o, ho, -, -, -, -, -, hbh⟩ := facts r hr
     have hl := Shut.behind hSh 4 i (hbh i hit) (fun o' ho' e he hbb => hall e (by rw [hoi] at ho'; cases ho'; exact he) hbb)
     rw [hLv _ (Array.getElem?_eq_some_iff.1 ho).1] at hl
     simp [hm] at hl
   obtain ⟨r, hr, rfl⟩ := inR i hiS
   obtain ⟨o, ho, hdst, hgd, hnt, hdeps, hafter, hbh⟩ := facts r hr
   obtain rfl : oi = o := Option.some.inj (hoi.symm.trans ho)
   have hget : ops.toList.getD r.i default = oi := by simp [ho]
   unfold wpOp
   simp only [ho]
   rw [if_pos (by simp [Region.wanted, hgd])]
   refine .inl (upon_monoQ (Q := NoQ) (fun _ _ _ h => h.elim) ?_)
   have hx := ph.exec r hr us w hb (fun r' hr' hd => ?_) (fun a' w' => (tail.contains r.i = false → Keep w w') ∧ wpAnyX P .any ops (Calm Q) (fun i => tail.contains i) (n + tail.length) (L.setIfInBounds r.i true) a' w') ?_
   ·rw [hget] at hx; exact hx
   ·have hw := hdeps _ hd
    obtain ⟨oj, hoj, e, he, hbd, hon⟩ := Region.waitsFor_spec hw
    obtain rfl : oj = oi := Option.some.inj (hoj.symm.trans ho)
    have hl := hall e he hbd
    rw [hon] at hl
    have hlt : r'.i < ops.size := by rw [← hon]; exact (hafter e he hbd).1
    rw [hLv _ hlt] at hl
    exact (hJ r' hr' (by intro hc; simp [hc] at hl)).1
   ·intro v a' w' ha' hJv hbw hfr
    refine ⟨fun _ => Keep.of_below hbw, ?_⟩
    rw [ha', puts_upd us R a0 r v hr hni hnd]
    have hbw' : Below w0.heap.size w0 w' := hb.trans (hbw.mono hb.size)
    have uniq : ∀ r' ∈ R, r'.i = r.i → r' = r := fun r' hr' e => by
     exact nodup_inj hni hr' hr e
    have hupd : ∀ r' ∈ R, r'.i ≠ r.i → upd us r.i v r'.i = us r'.i := fun r' _ hne => by simp [upd, hne]
    have hself : upd us r.i v r.i = v := by simp [upd]
    have hin : ∀ x, x ∈ S.erase r.i ↔ x ≠ r.i ∧ x ∈ S := fun x => hSn.mem_erase_iff
    refine ih (S.erase r.i) _ (upd us r.i v) w' (by rw [List.length_erase_of_mem hiS, hS]; rfl) (hSn.erase _) (fun s hs => hSR s ((hin s).1 hs).2) (by simpa using hLs) ?_ (hSh.set hi) hbw' ?_ ?_
    ·intro j hj
     by_cases e : r.i = j
     ·subst e
      have : (S.erase r.i).contains r.i = false := by
       cases hq : (S.erase r.i).contains r.i with
       | false => rfl
       | true => exact absurd rfl ((hin _).1 (by simpa using hq)).1
      rw [this, hnt]; simp [hLs, hj]
     ·rw [getD_set_ne false e, hLv j hj]
      have : (S.erase r.i).contains j = S.contains j := by
       rw [Bool.eq_iff_iff]; simp only [List.contains_iff_mem]
       rw [hin]; exact ⟨fun h => h.2, fun h => ⟨fun x => e x.symm, h⟩⟩
      rw [this]
    ·intro r' hr' hnS
     by_cases e : r'.i = r.i
     ·obtain rfl := uniq r' hr' e
      rw [hself]
      exact ⟨hJv, fun hf => ⟨Nat.le_trans hb.size (hfr hf).1, (hfr hf).2⟩⟩
     ·rw [hupd r' hr' e]
      have := hJ r' hr' (fun hc => hnS ((hin _).2 ⟨e, hc⟩))
      exact ⟨ph.stable r' hr' _ _ _ hbw this.1, fun hf => ⟨(this.2 hf).1, Nat.lt_of_lt_of_le (this.2 hf).2 hbw.size⟩⟩
    ·intro r1 h1 r2 h2 hne f1 f2 n1 n2
     by_cases e1 : r1.i = r.i
     ·obtain rfl := uniq r1 h1 e1
      rw [hself, hupd r2 h2 (fun e => hne e.symm)]
      have := (hJ r2 h2 (fun hc => n2 ((hin _).2 ⟨fun e => hne e.symm, hc⟩))).2 f2
      have := (hfr f1).1
      omega
     ·by_cases e2 : r2.i = r.i
      ·obtain rfl := uniq r2 h2 e2
       rw [hself, hupd r1 h1 e1]
       have := (hJ r1 h1 (fun hc => n1 ((hin _).2 ⟨e1, hc⟩))).2 f1
       have := (hfr f2).1
       omega
      ·rw [hupd r1 h1 e1, hupd r2 h2 e2]
       exact hF r1 h1 r2 h2 hne f1 f2 (fun hc => n1 ((hin _).2 ⟨e1, hc⟩)) (fun hc => n2 ((hin _).2 ⟨e2, hc⟩))
theorem put_self (a : Act) (d : Tmp) : a.put (some d) (a.tmps.getD d undef) = a := by
 cases a
 simp only [Act.put]
 congr 1
 apply Array.ext_getElem?
 intro i
 rw [Array.getElem?_setIfInBounds]
 split
 ·rename_i h; subst h
  split
  ·rename_i h1; simp [h1]
  ·rename_i h1; simp; omega
 ·rfl
theorem puts_id {us : Nat → Value} : ∀ (R : List Flo) (a : Act), (∀ r ∈ R, us r.i = a.tmps.getD r.d undef) → puts us R a = a
 | [], _, _ => rfl
 | r :: R, a, h => by
  rw [puts, h r (by simp), put_self]
  exact puts_id R a fun r' hr' => h r' (by simp [hr'])
theorem puts_self {R : List Flo} (hni : (R.map (·.i)).Nodup) (a : Act) : ∃ us, puts us R a = a := by
 refine ⟨fun i => ((R.find? fun r => r.i == i).map fun r => a.tmps.getD r.d undef).getD undef, puts_id R a fun r hr => ?_⟩
 cases hq : R.find? fun r' => r'.i == r.i with
 | none =>
  have := List.find?_eq_none.1 hq r hr
  simp at this
 | some r' =>
  have h1 := List.mem_of_find?_eq_some hq
  have h2 := List.find?_some hq
  rw [nodup_inj hni h1 hr (by simpa using h2)]; rfl
theorem wpAnyX_pre {ops : Array Oper} {Q : Exit → Act → World → Prop} {R : List Flo} {tail : List Nat} (hsel : Region.noSelect ops = true) (hni : (R.map (·.i)).Nodup) (hnd : (R.map (·.d)).Nodup) (hR : floR ops (R.map key) tail = true) :
  ∀ (p : List (Nat × Nat)) (f : Nat) (listed : Array Bool) (a : Act) (w : World), Shut .any ops listed → listed.size = ops.size →
   preB ops (R.map key) tail p f listed = true → wpPlan P ops (fun _ a' w' => Phase P ops Q R tail a' w') ((row p []).map fun i => ops.toList.getD i default) a w →
   wpAnyX P .any ops (Calm Q) (fun i => tail.contains i) f listed a w
 | [], f, listed, a, w, inv, hsz, hB, h => by
  simp only [preB, Bool.and_eq_true, decide_eq_true_eq] at hB
  obtain ⟨⟨hf, hL⟩, hT⟩ := hB
  have hkey : (R.map key).map (·.1) = R.map (·.i) := by simp [key]
  rw [hkey] at hT
  have ph : Phase P ops Q R tail a w := h
  obtain ⟨us, hus⟩ := puts_self hni a
  have := wpAnyX_flo ph hni hnd hR hL hsz hT (R.map (·.i)).length (R.map (·.i)) listed us w rfl hni (fun _ h => h) hsz ?_ inv (Below.refl _ _) (fun r hr hn => absurd (List.mem_map_of_mem hr) hn) (fun r hr _ _ _ _ _ hn => absurd (List.mem_map_of_mem hr) hn)
  ·rw [hus] at this
   rw [hf]; simpa using this
  ·intro j hj
   have h1 := List.all_eq_true.1 hL j (by simp; omega)
   rw [hkey] at h1
   cases hq : ((R.map (·.i)).contains j || tail.contains j)
   ·rw [hq] at h1; simpa using h1
   ·rw [hq] at h1
    have : listed.getD j true = false := by
     cases hq2 : listed.getD j true with
     | false => rfl
     | true => rw [hq2] at h1; simp at h1
    rw [getD_both this]; rfl
 | _ :: _, 0, _, _, _, _, _, hB, _ => by simp [preB] at hB
 | (i, k) :: p, f + 1, listed, a, w, inv, hsz, hB, h => by
  simp only [preB, Bool.and_eq_true, Bool.not_eq_true', Bool.or_eq_true, beq_iff_eq] at hB
  obtain ⟨⟨⟨⟨hXi, hr⟩, hf⟩, hk⟩, hB'⟩ := hB
  simp only [row, PT.map, wpPlan] at h
  have hi := get_ready (i := i) (by simpa using hr)
  have hr' : i ∈ Region.ready .any ops listed := by simpa using hr
  rcases hk with rfl | ⟨rfl, hb⟩
  ·have takeP : ∀ v, YieldsIf P ops (fun _ => True) (ops.toList.getD i default) v a → wpPlan P ops (fun _ a' w' => Phase P ops Q R tail a' w') ((row p []).map fun i => ops.toList.getD i default) (a.put (ops.toList.getD i default).dst v) w →
     wpAnyX P .any ops (Calm Q) (fun i => tail.contains i) (f + 1) listed a w := fun v hy hK =>
    wpAnyX_first (G := fun _ _ => True) (fun _ => trivial) hi (Region.noSelect_spec hsel) hXi (fun _ _ _ h => h) (fun h _ => h) (fun _ _ _ _ _ _ => trivial)
     _ listed a w inv (Region.free_spec hi hf) hr' hy
     (wpAnyX_pre hsel hni hnd hR p f _ _ _ (inv.set hr') (by simpa using hsz) hB' hK)
   by_cases hw : Region.wanted (ops.toList.getD i default) (yielded ops a.tmps) = true
   ·simp only [hw, if_true] at h
    obtain ⟨s, hs, he⟩ := firm_of_pureB (R := fun _ _ => True) h.1
    obtain ⟨v, hy, hK⟩ := taken hs he hw h.2
    exact takeP v hy hK
   ·simp only [hw] at h
    exact takeP undef (.inr ⟨by simpa using hw, rfl⟩) h
  ·have takeK : ∀ v, YieldsIf P ops (Keep w) (ops.toList.getD i default) v a → wpPlan P ops (fun _ a' w' => Phase P ops Q R tail a' w') ((row p []).map fun i => ops.toList.getD i default) (a.put (ops.toList.getD i default).dst v) w →
     wpAnyX P .any ops (Calm Q) (fun i => tail.contains i) (f + 1) listed a w := fun v hy hK =>
    wpAnyX_first (G := Keep) Keep.refl hi (Region.noSelect_spec hsel) hXi (fun _ _ _ h => h) yieldsIf_keep
     (fun j l2 inv2 hu hj hX => hX (by
      cases hc : tail.contains j with
      | false => rfl
      | true =>
       exfalso
       have hbj := List.all_eq_true.1 hb j (by simpa using hc)
       obtain ⟨_, oj, hoj, hall⟩ := mem_ready.1 hj
       have := Shut.behind inv2 4 j hbj (fun o' ho' e he hbb => hall e (by rw [hoj] at ho'; cases ho'; exact he) hbb)
       rw [hu] at this; cases this))
     _ listed a w inv (Region.free_spec hi hf) hr' hy
     (wpAnyX_pre hsel hni hnd hR p f _ _ _ (inv.set hr') (by simpa using hsz) hB' hK)
   by_cases hw : Region.wanted (ops.toList.getD i default) (yielded ops a.tmps) = true
   ·simp only [hw, if_true] at h
    obtain ⟨s, hs, he⟩ := firm_of_firmB h.1
    obtain ⟨v, hy, hK⟩ := taken hs he hw h.2
    exact takeK v hy hK
   ·simp only [hw] at h
    exact takeK undef (.inr ⟨by simpa using hw, rfl⟩) h
theorem wp_region_flo {Q : Exit → Act → World → Prop} {id : Nat} {a : Act} {w : World} {l : List Oper} (pre : List (Nat × Nat)) (R : List Flo) (ks : List (Nat × Tmp × List Nat)) (tail : List Nat) (hm : P.follows .mixedOrders = true)
  (hB : floB l.toArray pre ks tail = true) (hk : R.map key = ks)
  (h : wpPlan P l.toArray (fun _ a' w' => Phase P l.toArray Q R tail a' w') ((row pre []).map fun i => l.getD i default) a w.drew) : (Code.region id l.toArray true).wp P Q a w := by
 subst hk
 simp only [floB, Bool.and_eq_true, decide_eq_true_eq] at hB
 obtain ⟨⟨⟨⟨hsel, hni⟩, hnd⟩, hR⟩, hpre⟩ := hB
 have e1 : (R.map key).map (·.1) = R.map (·.i) := by simp [key]
 have e2 : (R.map key).map (·.2.1) = R.map (·.d) := by simp [key]
 rw [e1] at hni
 rw [e2] at hnd
 have inv0 : Shut .any l.toArray (Array.replicate l.toArray.size false) := ⟨by simp, fun j oj _ hl => (by rw [getD_replicate_false] at hl; cases hl)⟩
 exact wp_region_any hm (wpAny_of_X Calm.imp _ _ _ _ (wpAnyX_pre hsel hni hnd hR pre _ _ a w.drew inv0 (by simp) hpre h))
theorem phase_done {ops : Array Oper} {Q : Exit → Act → World → Prop} {R : List Flo} {tail : List Nat} {a : Act} {w : World} (h : Phase P ops Q R tail a w) : wpList P ops (Calm (fun _ a' w' => Phase P ops Q R tail a' w')) [] a w := h
theorem stable_row {B : Nat} {c : Array Value} {w w' : World} (hb : Below w.heap.size w w') (h : row? w B = some c) : row? w' B = some c := by rw [row?_below hb (row?_lt h)]; exact h
theorem exec_call {o : Oper} {a : Act} {w : World} {K : Act → World → Prop} {f : FuncId} {args : Array Value} {post : Ending → World → Prop} (he : (execOp a.eval o).run P w = .ok (.enter f args) w) (hc : Calls P f args w post)
  (h : ∀ e w', post e w' → ∃ v, e = .returned v ∧ K (a.put o.dst v) w') : o.wp P a w K NoQ := by
 unfold Oper.wp
 rw [he, Oper.upon_enter]
 exact hc.mono fun e w' hp => by obtain ⟨v, rfl, hK⟩ := h e w' hp; exact hK
theorem exec_value {o : Oper} {a : Act} {w w' : World} {v : Value} {K : Act → World → Prop} (he : (execOp a.eval o).run P w = .ok (.value v) w') (h : K (a.put o.dst v) w') : o.wp P a w K NoQ := by
 unfold Oper.wp
 rw [he]
 exact h
end Go.Rg

end
