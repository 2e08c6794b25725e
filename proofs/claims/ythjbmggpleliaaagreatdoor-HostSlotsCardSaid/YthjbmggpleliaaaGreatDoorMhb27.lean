/- LibV; LibSr; LibMu; HstN. -/
import Derived.Test.YthjbmggpleliaaaGreatDoorMhbLibX
import Derived.Great.BuildSlice
import Derived.Test.YthjbmggpleliaaaGreatDoorMhb18
import Derived.Test.YthjbmggpleliaaaGreatDoorMhb26
import Derived.RegionTactic
import Derived.BigRegion
section
namespace Go.Rg
open Go Go.RowKit Go.Rw
variable {P : Program}
def ExecOk (P : Program) (ops : Array Oper) (R : List Flo) (a0 : Act) (w0 : World) (r : Flo) : Prop :=
 ∀ us w, Below w0.heap.size w0 w → (∀ r' ∈ R, r'.i ∈ r.deps → r'.J (us r'.i) w) → ∀ K : Act → World → Prop,
  (∀ v a' w', a' = (puts us R a0).put (some r.d) v → r.J v w' → Below w.heap.size w w' → (r.fresh = true → w.heap.size ≤ vblk v ∧ vblk v < w'.heap.size) → K a' w') →
  (ops.toList.getD r.i default).wp P (puts us R a0) w K NoQ
theorem phase_mk {ops : Array Oper} {Q : Exit → Act → World → Prop} {R : List Flo} {tail : List Nat} {a0 : Act} {w0 : World}
  (h1 : ∀ r ∈ R, ∀ v w w', Below w.heap.size w w' → r.J v w → r.J v w') (h2 : ∀ r ∈ R, ExecOk P ops R a0 w0 r)
  (h3 : ∀ us w, Below w0.heap.size w0 w → (∀ r ∈ R, r.J (us r.i) w) → (∀ r ∈ R, r.fresh = true → w0.heap.size ≤ vblk (us r.i) ∧ vblk (us r.i) < w.heap.size) →
  (∀ r ∈ R, ∀ r' ∈ R, r.i ≠ r'.i → r.fresh = true → r'.fresh = true → vblk (us r.i) ≠ vblk (us r'.i)) → wpList P ops (Calm Q) (tail.map fun i => ops.toList.getD i default) (puts us R a0) w) : Phase P ops Q R tail a0 w0 :=
 ⟨h1, h2, h3⟩
theorem ph_gen {ops : Array Oper} {R : List Flo} {a0 : Act} {w0 : World} (i : Nat) (d : Tmp) (deps : List Nat) (fr : Bool) (J : Value → World → Prop) (hd : (ops.toList.getD i default).dst = some d) (M : Nat) (hM : M ≤ w0.heap.size)
  (hx : ∀ us w, M ≤ w.heap.size → (∀ r' ∈ R, r'.i ∈ deps → r'.J (us r'.i) w) → ∃ v w', (execOp (puts us R a0).eval (ops.toList.getD i default)).run P w = .ok (.value v) w' ∧ J v w' ∧ Below w.heap.size w w' ∧ (fr = true → w.heap.size ≤ vblk v ∧ vblk v < w'.heap.size)) :
  ExecOk P ops R a0 w0 ⟨i, d, deps, fr, J⟩ := by
 intro us w hb hdep K hK
 obtain ⟨v, w', hr, hj, hb', hf⟩ := hx us w (Nat.le_trans hM hb.size) hdep
 show (ops.toList.getD i default).wp P (puts us R a0) w K NoQ
 refine exec_value hr ?_
 rw [hd]
 exact hK v _ w' rfl hj hb' hf
theorem run_exec_bslice {o : Oper} {ρ : Operand → Value} {w : World} (t e : TypeId) (s : Nat) (parts : Array (Nat × Operand)) (vs : List Value) (ho : o.op = .buildSlice t vs.length parts) (hs : 0 < s)
  (ie : TypeInfo) (z : Value) (hu : P.underlying t = some (.slice e)) (hie : P.info? e = some ie) (hz : ie.zero = some z) (hsz : ie.size = s) (hsmall : ¬ vs.length * s > 2 ^ 24) (hpos : ¬ vs.length * s = 0)
  (hx : (parts.map fun (i, x) => (i, ρ x)).toList = (vs.zipIdx 0).map fun x => (x.2, x.1)) (hc : ∀ v ∈ vs, v.cells.size = s) :
  (execOp ρ o).run P w = .ok (.value (.slice (some ⟨w.heap.size, 0, none⟩) vs.length vs.length)) (w.alloc (.cells (vs.flatMap fun v => v.cells.toList).toArray e)) := by
 have hr := run_buildSlice (P := P) w t e vs.length (parts.map fun (i, x) => (i, ρ x)) _ ie z hu hie hz (by rw [hsz]; exact hsmall) (by rw [hsz]; exact hpos) (by rw [hx, hsz]; exact Great.fill_whole hs vs _ hc (by simp))
 simp only [execOp, ho, Sem.run_bind, hr, Result.andThen_ok]
 rfl
theorem run_exec_load {o : Oper} {ρ : Operand → Value} {w : World} {t : TypeId} {x : Operand} {xv v : Value} (ho : o.op = .load t x) (hx : ρ x = xv) (hs : (Instr.loadAt t xv).run P w = .ok v w) : (execOp ρ o).run P w = .ok (.value v) w := by
 simp only [execOp, ho, hx, Sem.run_bind, hs, Result.andThen_ok]
 rfl
theorem run_exec_alloc {o : Oper} {ρ : Operand → Value} {w w' : World} {t : TypeId} {v : Value} (ho : o.op = .alloc t) (hs : (Instr.alloc t true (.tuple #[])).run P w = .ok v w') : (execOp ρ o).run P w = .ok (.value v) w' := by
 simp only [execOp, ho, Sem.run_bind, hs, Result.andThen_ok]
 rfl
end Go.Rg

end
section
namespace Go.Rg
open Go Go.RowKit Go.Rw
variable {P : Program}
def dstOk (o : Oper) (d : Tmp) : Bool := o.dst == some d || o.dst == none
def floR9 (ops : Array Oper) (R : List (Nat × Tmp × List Nat)) (tail : List Nat) : Bool :=
 R.all fun r => (match ops[r.1]? with
  | some o => dstOk o r.2.1 && o.guard.isNone && !tail.contains r.1 && r.2.2.all (fun x => Region.waitsFor .any ops r.1 x) && o.after.all fun e => !Region.binds .any e || (decide (e.on < ops.size) && !tail.contains e.on && (!(R.map (·.1)).contains e.on || decide (e.on < r.1)))
  | none => false) && tail.all fun t => behindB .any ops 8 t r.1
theorem wpAnyX_inv9 {ops : Array Oper} {Q : Exit → Act → World → Prop} {R : List Flo} {X tail : List Nat} {a0 : Act} {w0 : World} {L0 : Array Bool} {I : Inv} (ph : PhaseI P ops Q R X tail a0 w0 I) (ph_deps : depsIn R = true) (_ : ∀ t ∈ tail, X.contains t = true)
  (hni : (R.map (·.i)).Nodup) (hnd : (R.map (·.d)).Nodup) (hR : floR9 ops (R.map key) tail = true) (hL : floL (R.map key) tail L0 = true) (hsz : L0.size = ops.size)
  (hT : tailB .any ops X tail tail.length (setAll (R.map (·.i)) L0) = true) :
  ∀ (n : Nat) (S : List Nat) (L : Array Bool) (us : Nat → Value) (w : World), S.length = n → S.Nodup → (∀ s ∈ S, s ∈ R.map (·.i)) → L.size = ops.size →
   (∀ j, j < ops.size → L.getD j false = (!(S.contains j || tail.contains j))) → Shut .any ops L →
   I (fun j => (R.map (·.i)).contains j && !S.contains j) us w →
   wpAnyX P .any ops (Calm Q) (fun i => X.contains i) (n + tail.length) L (puts us R a0) w := by
 have hkey : (R.map key).map (·.1) = R.map (·.i) := by simp [key]
 intro n
 induction n with
 | zero =>
  intro S L us w hS _ _ hLs hLv _ hI
  obtain rfl : S = [] := List.eq_nil_of_length_eq_zero hS
  have hLe : L = setAll (R.map (·.i)) L0 := by
   apply Array.ext (by rw [setAll_size, hLs, hsz])
   intro j h1 h2
   have e1 := hLv j (by omega)
   have e2 := setAll_getD (R.map (·.i)) L0 j (by omega)
   have hlj := List.all_eq_true.1 hL j (by simp; omega)
   rw [hkey] at hlj
   have e3 : L.getD j false = (setAll (R.map (·.i)) L0).getD j false := by
    rw [e1, e2]
    by_cases hc : tail.contains j = true
    ·have hnr : (R.map (·.i)).contains j = false := by
      cases hq : (R.map (·.i)).contains j with
      | false => rfl
      | true =>
       exfalso
       obtain ⟨r, hr, hrj⟩ := List.mem_map.1 (by simpa using hq : j ∈ R.map (·.i))
       have := List.all_eq_true.1 hR (key r) (List.mem_map_of_mem hr)
       simp only [Bool.and_eq_true] at this
       have h3 := this.1
       split at h3
       ·simp only [Bool.and_eq_true, key] at h3
        have h4 := h3.1.1.2
        rw [hrj, hc] at h4; simp at h4
       ·cases h3
     rw [hnr, hc] at hlj
     have hf : L0.getD j true = false := by
      cases hq : L0.getD j true with
      | false => rfl
      | true => rw [hq] at hlj; simp at hlj
     rw [hnr, hc, getD_both hf]; rfl
    ·have hc' : tail.contains j = false := by simpa using hc
     rw [hc']
     cases hq : (R.map (·.i)).contains j
     ·rw [hq, hc'] at hlj
      have hf : L0.getD j false = true := by
       cases hq2 : L0.getD j false with
       | true => rfl
       | false => rw [hq2] at hlj; simp at hlj
      rw [hf]; rfl
     ·rfl
   simpa [h1, h2] using e3
  rw [hLe, Nat.zero_add]
  exact wpAnyX_tail tail _ _ _ _ hT (ph.last _ us w (fun r hr => by simp; exact ⟨r, hr, rfl⟩) hI)
 | succ n ih =>
  intro S L us w hS hSn hSR hLs hLv hSh hI
  rw [show n + 1 + tail.length = (n + tail.length) + 1 by omega]
  have inR : ∀ s ∈ S, ∃ r ∈ R, r.i = s := fun s hs => by
   obtain ⟨r, hr, e⟩ := List.mem_map.1 (hSR s hs)
   exact ⟨r, hr, e⟩
  have facts : ∀ r ∈ R, ∃ o, ops[r.i]? = some o ∧ dstOk o r.d = true ∧ o.guard = none ∧ tail.contains r.i = false ∧ (∀ x ∈ r.deps, Region.waitsFor .any ops r.i x = true) ∧
    (∀ e ∈ o.after, Region.binds .any e = true → e.on < ops.size ∧ tail.contains e.on = false ∧ ((R.map (·.i)).contains e.on = true → e.on < r.i)) ∧ (∀ t ∈ tail, behindB .any ops 8 t r.i = true) := fun r hr => by
   have h1 := List.all_eq_true.1 hR (key r) (List.mem_map_of_mem hr)
   rw [hkey] at h1
   simp only [Bool.and_eq_true, key] at h1
   obtain ⟨h1, h2⟩ := h1
   cases ho : ops[r.i]? with
   | none => rw [ho] at h1; cases h1
   | some o =>
    rw [ho] at h1
    simp only [Bool.and_eq_true, beq_iff_eq, Option.isNone_iff_eq_none, Bool.not_eq_true', List.all_eq_true, Array.all_eq_true', Bool.or_eq_true, decide_eq_true_eq] at h1
    refine ⟨o, rfl, h1.1.1.1.1, h1.1.1.1.2, h1.1.1.2, h1.1.2, fun e he hbd => ?_, List.all_eq_true.1 h2⟩
    rcases h1.2 e he with h | h
    ·rw [hbd] at h; cases h
    ·exact ⟨h.1.1, h.1.2, fun hc => by
      rcases h.2 with h' | h'
      ·rw [hc] at h'; cases h'
      ·exact of_decide_eq_true h'⟩
  refine ⟨fun h0 => ?_, fun i hi => ?_⟩
  ·exfalso
   obtain ⟨m, hm, hle⟩ := exists_least S (by intro e; subst e; simp at hS)
   obtain ⟨r, hr, rfl⟩ := inR m hm
   obtain ⟨o, ho, -, -, -, -, hafter, -⟩ := facts r hr
   have hlt : r.i < ops.size := (Array.getElem?_eq_some_iff.1 ho).1
   have hrd : r.i ∈ Region.ready .any ops L := by
    rw [mem_ready]
    refine ⟨getD_in (by omega) (by rw [hLv _ hlt]; simp [hm]), o, ho, fun e he hbd => ?_⟩
    obtain ⟨h1, h2, h3⟩ := hafter e he hbd
    rw [hLv _ h1, h2]
    have : S.contains e.on = false := by
     cases hq : S.contains e.on with
     | false => rfl
     | true =>
      exfalso
      have hq' : e.on ∈ S := by simpa using hq
      have := h3 (by simpa using hSR _ hq')
      have := hle _ hq'
      omega
    rw [this]; rfl
   rw [h0] at hrd; cases hrd
  ·obtain ⟨hun, oi, hoi, hall⟩ := mem_ready.1 hi
   have hilt : i < ops.size := (Array.getElem?_eq_some_iff.1 hoi).1
   have hi0 := getD_both hun
   rw [hLv i hilt] at hi0
   have hiS : i ∈ S := by
    cases hq : S.contains i with
    | true => simpa using hq
    | false =>
     exfalso
     rw [hq] at hi0
     have hit : i ∈ tail := by simpa using hi0
     obtain ⟨m, hm, _⟩ := exists_least S (by intro e; subst e; simp at hS)
     obtain ⟨r, hr, rfl⟩ := inR m hm
     obtain ⟨o, ho, -, -, -, -, -, hbh⟩ := facts r hr
     have hl := Shut.behind hSh 8 i (hbh i hit) (fun o' ho' e he hbb => hall e (by rw [hoi] at ho'; cases ho'; exact he) hbb)
     rw [hLv _ (Array.getElem?_eq_some_iff.1 ho).1] at hl
     simp [hm] at hl
   obtain ⟨r, hr, rfl⟩ := inR i hiS
   obtain ⟨o, ho, hdst, hgd, hnt, hdeps, hafter, hbh⟩ := facts r hr
   obtain rfl : oi = o := Option.some.inj (hoi.symm.trans ho)
   have hget : ops.toList.getD r.i default = oi := by simp [ho]
   unfold wpOp
   simp only [ho]
   rw [if_pos (by simp [Region.wanted, hgd])]
   refine .inl (upon_monoQ (Q := NoQ) (fun _ _ _ h => h.elim) ?_)
   have hx := ph.exec r hr (fun j => (R.map (·.i)).contains j && !S.contains j) us w (by simp [hiS]) (fun d hd => ?_) hI (fun a' w' => (X.contains r.i = false → Keep w w') ∧ wpAnyX P .any ops (Calm Q) (fun i => X.contains i) (n + tail.length) (L.setIfInBounds r.i true) a' w') ?_
   ·rw [hget] at hx; exact hx
   ·obtain ⟨oj, hoj, e, he, hbd, hon⟩ := Region.waitsFor_spec (hdeps d hd)
    obtain rfl : oj = oi := Option.some.inj (hoj.symm.trans ho)
    have hl := hall e he hbd
    rw [hon] at hl
    have hd2 := hafter e he hbd
    rw [hon] at hd2
    rw [hLv _ hd2.1] at hl
    have hns : S.contains d = false := by
     cases hq : S.contains d with
     | false => rfl
     | true => rw [hq] at hl; simp at hl
    have hdr : (R.map (·.i)).contains d = true := by
     have := List.all_eq_true.1 (List.all_eq_true.1 ph_deps r hr) d hd
     exact this
    simp only [hns, hdr]; rfl
   ·intro v w' hI' hk
    refine ⟨fun hx => by
     rcases hk with h | h
     ·rw [h] at hx; cases hx
     ·exact h, ?_⟩
    rw [puts_upd us R a0 r v hr hni hnd]
    have hin : ∀ x, x ∈ S.erase r.i ↔ x ≠ r.i ∧ x ∈ S := fun x => hSn.mem_erase_iff
    refine ih (S.erase r.i) _ (upd us r.i v) w' (by rw [List.length_erase_of_mem hiS, hS]; rfl) (hSn.erase _) (fun s hs => hSR s ((hin s).1 hs).2) (by simpa using hLs) ?_ (hSh.set hi) ?_
    ·intro j hj
     by_cases e : r.i = j
     ·subst e
      have : (S.erase r.i).contains r.i = false := by
       cases hq : (S.erase r.i).contains r.i with
       | false => rfl
       | true => exact absurd rfl ((hin _).1 (by simpa using hq)).1
      rw [this, hnt]; simp [hLs, hj]
     ·rw [getD_set_ne false e, hLv j hj]
      have : (S.erase r.i).contains j = S.contains j := by
       rw [Bool.eq_iff_iff]; simp only [List.contains_iff_mem]
       rw [hin]; exact ⟨fun h => h.2, fun h => ⟨fun x => e x.symm, h⟩⟩
      rw [this]
    ·have : (fun j => (R.map (·.i)).contains j && !(S.erase r.i).contains j) = updB (fun j => (R.map (·.i)).contains j && !S.contains j) r.i := by
      funext j
      unfold updB
      by_cases e : j = r.i
      ·subst e
       have h1 : (S.erase r.i).contains r.i = false := by
        cases hq : (S.erase r.i).contains r.i with
        | false => rfl
        | true => exact absurd rfl ((hin _).1 (by simpa using hq)).1
       have h2 : (R.map (·.i)).contains r.i = true := by simp; exact ⟨r, hr, rfl⟩
       rw [if_pos rfl, h1, h2]; rfl
      ·have h1 : (S.erase r.i).contains j = S.contains j := by
        rw [Bool.eq_iff_iff]; simp only [List.contains_iff_mem]
        rw [hin]; exact ⟨fun h => h.2, fun h => ⟨e, h⟩⟩
       rw [if_neg e, h1]
     rw [this]; exact hI'
def preB9 (ops : Array Oper) (R : List (Nat × Tmp × List Nat)) (X tail : List Nat) : List (Nat × Nat) → Nat → Array Bool → Bool
 | [], f, listed => decide (f = R.length + tail.length) && floL R tail listed && tailB .any ops X tail tail.length (setAll (R.map (·.1)) listed)
 | _ :: _, 0, _ => false
 | (i, k) :: p, f + 1, listed => !X.contains i && (Region.ready .any ops listed).contains i && Region.free .any ops listed i && (k == 3 || (k == 0 && X.all fun x => behindB .any ops 6 x i)) && preB9 ops R X tail p f (listed.setIfInBounds i true)
def invB9 (ops : Array Oper) (pre : List (Nat × Nat)) (R : List (Nat × Tmp × List Nat)) (X tail : List Nat) : Bool :=
 Region.noSelect ops && decide (R.map (·.1)).Nodup && decide (R.map (·.2.1)).Nodup && floR9 ops R tail && tail.all (fun t => X.contains t) && preB9 ops R X tail pre ops.size (Array.replicate ops.size false)
theorem wpAnyX_pre9 {ops : Array Oper} {Q : Exit → Act → World → Prop} {R : List Flo} {X tail : List Nat} (hsel : Region.noSelect ops = true) (hd : depsIn R = true) (hX : ∀ t ∈ tail, X.contains t = true) (hni : (R.map (·.i)).Nodup) (hnd : (R.map (·.d)).Nodup) (hR : floR9 ops (R.map key) tail = true) :
  ∀ (p : List (Nat × Nat)) (f : Nat) (listed : Array Bool) (a : Act) (w : World), Shut .any ops listed → listed.size = ops.size →
   preB9 ops (R.map key) X tail p f listed = true → wpPlan P ops (fun _ a' w' => ∃ I, PhaseI P ops Q R X tail a' w' I) ((row p []).map fun i => ops.toList.getD i default) a w →
   wpAnyX P .any ops (Calm Q) (fun i => X.contains i) f listed a w
 | [], f, listed, a, w, inv, hsz, hB, h => by
  simp only [preB9, Bool.and_eq_true, decide_eq_true_eq] at hB
  obtain ⟨⟨hf, hL⟩, hT⟩ := hB
  have hkey : (R.map key).map (·.1) = R.map (·.i) := by simp [key]
  rw [hkey] at hT
  obtain ⟨I, ph⟩ : ∃ I, PhaseI P ops Q R X tail a w I := h
  obtain ⟨us, hus⟩ := puts_self hni a
  have := wpAnyX_inv9 ph hd hX hni hnd hR hL hsz hT (R.map (·.i)).length (R.map (·.i)) listed us w rfl hni (fun _ h => h) hsz ?_ inv ?_
  ·rw [hus] at this
   rw [hf]; simpa using this
  ·intro j hj
   have h1 := List.all_eq_true.1 hL j (by simp; omega)
   rw [hkey] at h1
   cases hq : ((R.map (·.i)).contains j || tail.contains j)
   ·rw [hq] at h1; simpa using h1
   ·rw [hq] at h1
    have : listed.getD j true = false := by
     cases hq2 : listed.getD j true with
     | false => rfl
     | true => rw [hq2] at h1; simp at h1
    rw [getD_both this]; rfl
  ·have : (fun j => (R.map (·.i)).contains j && !(R.map (·.i)).contains j) = fun _ => false := by
    funext j; cases (R.map (·.i)).contains j <;> rfl
   rw [this]; exact ph.init us
 | _ :: _, 0, _, _, _, _, _, hB, _ => by simp [preB9] at hB
 | (i, k) :: p, f + 1, listed, a, w, inv, hsz, hB, h => by
  simp only [preB9, Bool.and_eq_true, Bool.not_eq_true', Bool.or_eq_true, beq_iff_eq] at hB
  obtain ⟨⟨⟨⟨hXi, hr⟩, hf⟩, hk⟩, hB'⟩ := hB
  simp only [row, PT.map, wpPlan] at h
  have hi := get_ready (i := i) (by simpa using hr)
  have hr' : i ∈ Region.ready .any ops listed := by simpa using hr
  rcases hk with rfl | ⟨rfl, hb⟩
  ·have takeP : ∀ v, YieldsIf P ops (fun _ => True) (ops.toList.getD i default) v a → wpPlan P ops (fun _ a' w' => ∃ I, PhaseI P ops Q R X tail a' w' I) ((row p []).map fun i => ops.toList.getD i default) (a.put (ops.toList.getD i default).dst v) w →
     wpAnyX P .any ops (Calm Q) (fun i => X.contains i) (f + 1) listed a w := fun v hy hK =>
    wpAnyX_first (G := fun _ _ => True) (fun _ => trivial) hi (Region.noSelect_spec hsel) hXi (fun _ _ _ h => h) (fun h _ => h) (fun _ _ _ _ _ _ => trivial)
     _ listed a w inv (Region.free_spec hi hf) hr' hy
     (wpAnyX_pre9 hsel hd hX hni hnd hR p f _ _ _ (inv.set hr') (by simpa using hsz) hB' hK)
   by_cases hw : Region.wanted (ops.toList.getD i default) (yielded ops a.tmps) = true
   ·simp only [hw, if_true] at h
    obtain ⟨s, hs, he⟩ := firm_of_pureB (R := fun _ _ => True) h.1
    obtain ⟨v, hy, hK⟩ := taken hs he hw h.2
    exact takeP v hy hK
   ·simp only [hw] at h
    exact takeP undef (.inr ⟨by simpa using hw, rfl⟩) h
  ·have takeK : ∀ v, YieldsIf P ops (Keep w) (ops.toList.getD i default) v a → wpPlan P ops (fun _ a' w' => ∃ I, PhaseI P ops Q R X tail a' w' I) ((row p []).map fun i => ops.toList.getD i default) (a.put (ops.toList.getD i default).dst v) w →
     wpAnyX P .any ops (Calm Q) (fun i => X.contains i) (f + 1) listed a w := fun v hy hK =>
    wpAnyX_first (G := Keep) Keep.refl hi (Region.noSelect_spec hsel) hXi (fun _ _ _ h => h) yieldsIf_keep
     (fun j l2 inv2 hu hj hX => hX (by
      cases hc : X.contains j with
      | false => rfl
      | true =>
       exfalso
       have hbj := List.all_eq_true.1 hb j (by simpa using hc)
       obtain ⟨_, oj, hoj, hall⟩ := mem_ready.1 hj
       have := Shut.behind inv2 6 j hbj (fun o' ho' e he hbb => hall e (by rw [hoj] at ho'; cases ho'; exact he) hbb)
       rw [hu] at this; cases this))
     _ listed a w inv (Region.free_spec hi hf) hr' hy
     (wpAnyX_pre9 hsel hd hX hni hnd hR p f _ _ _ (inv.set hr') (by simpa using hsz) hB' hK)
   by_cases hw : Region.wanted (ops.toList.getD i default) (yielded ops a.tmps) = true
   ·simp only [hw, if_true] at h
    obtain ⟨s, hs, he⟩ := firm_of_firmB h.1
    obtain ⟨v, hy, hK⟩ := taken hs he hw h.2
    exact takeK v hy hK
   ·simp only [hw] at h
    exact takeK undef (.inr ⟨by simpa using hw, rfl⟩) h
theorem wp_region_inv9 {Q : Exit → Act → World → Prop} {id : Nat} {a : Act} {w : World} {l : List Oper} (pre : List (Nat × Nat)) (R : List Flo) (ks : List (Nat × Tmp × List Nat)) (X tail : List Nat) (hm : P.follows .mixedOrders = true)
  (hB : invB9 l.toArray pre ks X tail = true) (hk : R.map key = ks) (hd : depsIn R = true)
  (h : wpPlan P l.toArray (fun _ a' w' => ∃ I, PhaseI P l.toArray Q R X tail a' w' I) ((row pre []).map fun i => l.getD i default) a w.drew) : (Code.region id l.toArray true).wp P Q a w := by
 subst hk
 simp only [invB9, Bool.and_eq_true, decide_eq_true_eq] at hB
 obtain ⟨⟨⟨⟨⟨hsel, hni⟩, hnd⟩, hR⟩, hX⟩, hpre⟩ := hB
 have e1 : (R.map key).map (·.1) = R.map (·.i) := by simp [key]
 have e2 : (R.map key).map (·.2.1) = R.map (·.d) := by simp [key]
 rw [e1] at hni
 rw [e2] at hnd
 have inv0 : Shut .any l.toArray (Array.replicate l.toArray.size false) := ⟨by simp, fun j oj _ hl => (by rw [getD_replicate_false] at hl; cases hl)⟩
 exact wp_region_any hm (wpAny_of_X Calm.imp _ _ _ _ (wpAnyX_pre9 hsel hd (List.all_eq_true.1 hX) hni hnd hR pre _ _ a w.drew inv0 (by simp) hpre h))
abbrev JS := (Nat → Value) → (Nat → Nat) → (Nat → Nat) → World → Prop
structure FloS where
 i : Nat
 d : Tmp
 ds : List Nat
 deps : List Nat
 src : Option Nat
 eats : List Nat
 uses : List Nat
 J : JS
def FloS.flo (r : FloS) : Flo := ⟨r.i, r.d, r.ds, false, fun _ _ => True⟩
structure Spare (l h : Nat) (w w' : World) : Prop where
 os : w'.os = w.os
 tape : w'.tape = w.tape
 output : w'.output = w.output
 size : w.heap.size ≤ w'.heap.size
 block : ∀ k, k < w.heap.size → (k < l ∨ h ≤ k) → w'.heap[k]? = w.heap[k]?
theorem Spare.below {l h N : Nat} {w w' : World} (s : Spare l h w w') (h1 : N ≤ l) (h2 : N ≤ w.heap.size) : Below N w w' :=
 ⟨s.os, s.tape, s.output, s.size, fun k hk => s.block k (by omega) (.inl (by omega))⟩
def updN (f : Nat → Nat) (i v : Nat) (j : Nat) : Nat := if j = i then v else f j
def DepS (RS : List FloS) (w0 : World) (deps : List Nat) (us : Nat → Value) (lo hi : Nat → Nat) (w : World) : Prop :=
 ∀ r' ∈ RS, r'.i ∈ deps → r'.J us lo hi w ∧ ∀ j ∈ r'.uses, w0.heap.size ≤ lo j ∧ lo j ≤ hi j ∧ hi j ≤ w.heap.size
def ExecS (P : Program) (ops : Array Oper) (RS : List FloS) (a0 : Act) (w0 : World) (r : FloS) : Prop :=
 ∀ (us : Nat → Value) (lo hi : Nat → Nat) w, Below w0.heap.size w0 w → DepS RS w0 r.deps us lo hi w → ∀ K : Act → World → Prop,
  (∀ v w', r.J (upd us r.i v) (updN lo r.i w.heap.size) (updN hi r.i w'.heap.size) w' → (r.src = none → Below w.heap.size w w') → (∀ s, r.src = some s → Spare (lo s) (hi s) w w') → K ((puts us (RS.map FloS.flo) a0).put (some r.d) v) w') →
  (ops.toList.getD r.i default).wp P (puts us (RS.map FloS.flo) a0) w K NoQ
def spB (RS : List FloS) (X : List Nat) : Bool :=
 decide (RS.map (·.i)).Nodup && RS.all (fun r => r.deps.all (fun j => r.ds.contains j) && r.uses.contains r.i && r.uses.all (fun j => RS.any fun q => q.i == j) && r.uses.all (fun j => j == r.i || RS.any fun q => r.deps.contains q.i && q.uses.contains j)) &&
 RS.all fun q => (q.eats.all fun s => RS.all fun p => !(p.deps.contains s) || p.i == q.i) && match q.src with
  | none => true
  | some s => q.eats.contains s && q.deps.contains s && X.contains q.i && (RS.any fun r => r.i == s) && RS.all fun p => p.i == s || p.i == q.i || !(p.uses.contains s)
theorem nodupS : ∀ {R : List FloS} {a b : FloS}, (R.map (·.i)).Nodup → a ∈ R → b ∈ R → a.i = b.i → a = b
 | [], _, _, _, h, _, _ => by cases h
 | r :: R, a, b, hn, ha, hb, e => by
  simp only [List.map_cons, List.nodup_cons] at hn
  rcases List.mem_cons.1 ha with h1 | h1 <;> rcases List.mem_cons.1 hb with h2 | h2
  ·rw [h1, h2]
  ·exact absurd (by rw [← h1, e]; exact List.mem_map_of_mem h2) hn.1
  ·exact absurd (by rw [← h2, ← e]; exact List.mem_map_of_mem h1) hn.1
  ·exact nodupS hn.2 h1 h2 e
theorem phase_spare {ops : Array Oper} {Q : Exit → Act → World → Prop} {X tail : List Nat} {a0 : Act} {w0 : World} (RS : List FloS) {R : List Flo} (hRS : RS.map FloS.flo = R) (hB : spB RS X = true)
  (congr : ∀ r ∈ RS, ∀ us us' lo lo' hi hi' w, (∀ j ∈ r.uses, us j = us' j ∧ lo j = lo' j ∧ hi j = hi' j) → r.J us lo hi w → r.J us' lo' hi' w)
  (stableB : ∀ r ∈ RS, ∀ us lo hi w w', Below w.heap.size w w' → r.J us lo hi w → r.J us lo hi w')
  (stableS : ∀ r ∈ RS, ∀ q ∈ RS, ∀ s, q.src = some s → s ≠ r.i → q.i ≠ r.i → (∀ p ∈ RS, r.i ∈ p.eats → p.i ∉ q.ds) → ∀ us lo hi w w', w0.heap.size ≤ lo s → (∀ j ∈ r.uses, w0.heap.size ≤ lo j ∧ lo j ≤ hi j ∧ hi j ≤ w.heap.size) → (∀ j ∈ r.uses, hi j ≤ lo s ∨ hi s ≤ lo j) → Spare (lo s) (hi s) w w' → r.J us lo hi w → r.J us lo hi w')
  (exec : ∀ r ∈ RS, ExecS P ops RS a0 w0 r)
  (last : ∀ (us : Nat → Value) (lo hi : Nat → Nat) w, Below w0.heap.size w0 w → (∀ r ∈ RS, (∀ q ∈ RS, r.i ∉ q.eats) → r.J us lo hi w) → (∀ r ∈ RS, w0.heap.size ≤ lo r.i ∧ lo r.i ≤ hi r.i ∧ hi r.i ≤ w.heap.size) →
   (∀ r ∈ RS, ∀ q ∈ RS, r.i ≠ q.i → hi r.i ≤ lo q.i ∨ hi q.i ≤ lo r.i) → wpList P ops (Calm Q) (tail.map fun i => ops.toList.getD i default) (puts us R a0) w) :
  ∃ I, PhaseI P ops Q R X tail a0 w0 I := by
 subst hRS
 simp only [spB, Bool.and_eq_true, decide_eq_true_eq, List.all_eq_true] at hB
 obtain ⟨⟨hnd, hB⟩, hC⟩ := hB
 have hu1 : ∀ r ∈ RS, r.i ∈ r.uses := fun r hr => List.contains_iff_mem.1 (hB r hr).1.1.2
 have hds : ∀ r ∈ RS, ∀ j ∈ r.deps, j ∈ r.ds := fun r hr j hj => List.contains_iff_mem.1 ((hB r hr).1.1.1 j hj)
 have useIn : ∀ r ∈ RS, ∀ j ∈ r.uses, ∃ a ∈ RS, a.i = j := fun r hr j hj => by
  have h := (hB r hr).1.2 j hj
  simpa only [List.any_eq_true, beq_iff_eq] using h
 have hu2 : ∀ r ∈ RS, ∀ j ∈ r.uses, j = r.i ∨ ∃ q ∈ RS, q.i ∈ r.deps ∧ j ∈ q.uses := fun r hr j hj => by
  have h := (hB r hr).2 j hj
  simp only [Bool.or_eq_true, beq_iff_eq, List.any_eq_true, Bool.and_eq_true] at h
  rcases h with h | ⟨q, hq, h1, h2⟩
  ·exact .inl h
  ·exact .inr ⟨q, hq, List.contains_iff_mem.1 h1, List.contains_iff_mem.1 h2⟩
 have hs1 : ∀ q ∈ RS, ∀ s, q.src = some s → s ∈ q.eats ∧ s ∈ q.deps ∧ X.contains q.i = true ∧ (∃ r ∈ RS, r.i = s) ∧ ∀ p ∈ RS, p.i ≠ s → p.i ≠ q.i → s ∉ p.uses := fun q hq s hs => by
  have h := (hC q hq).2
  rw [hs] at h
  simp only [Bool.and_eq_true, List.any_eq_true, beq_iff_eq, List.all_eq_true, Bool.or_eq_true, Bool.not_eq_true'] at h
  refine ⟨List.contains_iff_mem.1 h.1.1.1.1, List.contains_iff_mem.1 h.1.1.1.2, h.1.1.2, h.1.2, fun p hp h1 h2 h3 => ?_⟩
  rcases h.2 p hp with (h | h) | h
  ·exact h1 h
  ·exact h2 h
  ·rw [List.contains_iff_mem.2 h3] at h; cases h
 have hs2 : ∀ q ∈ RS, ∀ s ∈ q.eats, ∀ p ∈ RS, s ∈ p.deps → p.i = q.i := fun q hq s hs p hp hd => by
  have h := (hC q hq).1 s hs p hp
  simp only [Bool.or_eq_true, Bool.not_eq_true', beq_iff_eq] at h
  rcases h with h | h
  ·rw [List.contains_iff_mem.2 hd] at h; cases h
  ·exact h
 clear hB hC
 refine ⟨fun L us w => ∃ lo hi : Nat → Nat, Below w0.heap.size w0 w ∧ (∀ r ∈ RS, L r.i = true → (∀ q ∈ RS, r.i ∈ q.eats → L q.i = false) → r.J us lo hi w) ∧ (∀ r ∈ RS, L r.i = true → ∀ j ∈ r.uses, L j = true ∧ w0.heap.size ≤ lo j ∧ lo j ≤ hi j ∧ hi j ≤ w.heap.size) ∧
   (∀ r q : Nat, (∃ a ∈ RS, a.i = r) → (∃ a ∈ RS, a.i = q) → L r = true → L q = true → r ≠ q → hi r ≤ lo q ∨ hi q ≤ lo r), ?_, ?_, ?_⟩
 ·intro us
  exact ⟨fun _ => 0, fun _ => 0, Below.refl _ _, by simp, by simp, by simp⟩
 ·intro rf hrf L us w hnot hdep hI K hK
  obtain ⟨r, hr, rfl⟩ := List.mem_map.1 hrf
  obtain ⟨lo, hi, hBw, hJ, hbd, hdj⟩ := hI
  have hN := hBw.size
  have hnot' : L r.i = false := hnot
  have hdep' : ∀ d ∈ r.deps, L d = true := fun d hd => hdep d (hds r hr d hd)
  refine exec r hr us lo hi w hBw (fun q hq hqd => ?_) K (fun v w' hj hb hsp => hK v w' ?_ ?_)
  ·have h1 := hdep' _ hqd
   refine ⟨hJ q hq h1 (fun p hp hps => ?_), fun j hj => (hbd q hq h1 j hj).2⟩
   have := hs2 p hp _ hps r hr hqd
   rw [← this]; exact hnot'
  ·simp only [FloS.flo]
   have hsz : w.heap.size ≤ w'.heap.size := by
    cases e : r.src with
    | none => exact (hb e).size
    | some s => exact (hsp s e).size
   have hNS : ∀ s, r.src = some s → L s = true ∧ w0.heap.size ≤ lo s ∧ lo s ≤ hi s ∧ hi s ≤ w.heap.size ∧ ∃ a ∈ RS, a.i = s := fun s e => by
    obtain ⟨_, h1, _, ⟨q, hq, e2⟩, _⟩ := hs1 r hr s e
    have h3 := hdep' _ h1
    have := hbd q hq (by rw [e2]; exact h3) s (by rw [← e2]; exact hu1 q hq)
    exact ⟨h3, this.2.1, this.2.2.1, this.2.2.2, q, hq, e2⟩
   have hBw' : Below w0.heap.size w0 w' := by
    cases e : r.src with
    | none => exact hBw.trans ((hb e).mono hN)
    | some s => exact hBw.trans ((hsp s e).below (hNS s e).2.1 hN)
   have hin : ∀ q ∈ RS, updB L r.i q.i = true → q = r ∨ (q.i ≠ r.i ∧ L q.i = true) := fun q hq h => by
    by_cases e : q.i = r.i
    ·exact .inl (nodupS hnd hq hr e)
    ·simp only [updB, if_neg e] at h
     exact .inr ⟨e, h⟩
   have hune : ∀ q ∈ RS, L q.i = true → ∀ j ∈ q.uses, j ≠ r.i := fun q hq h j hj e => by
    have := (hbd q hq h j hj).1
    rw [e, hnot'] at this; cases this
   refine ⟨updN lo r.i w.heap.size, updN hi r.i w'.heap.size, hBw', ?_, ?_, ?_⟩
   ·intro q hq h h2
    rcases hin q hq h with rfl | ⟨e1, e2⟩
    ·exact hj
    ·have hq2 : ∀ p ∈ RS, q.i ∈ p.eats → L p.i = false := fun p hp hps => by
      have := h2 p hp hps
      by_cases e : p.i = r.i
      ·rw [e]; exact hnot'
      ·simpa [updB, e] using this
     have hjq := hJ q hq e2 hq2
     have hjq' : q.J us lo hi w' := by
      cases e : r.src with
      | none => exact stableB q hq _ _ _ w w' (hb e) hjq
      | some s =>
       obtain ⟨n1, n2, n3, n4, n5⟩ := hNS s e
       have hsq : s ≠ q.i := fun e3 => by
        have := h2 r hr (by rw [← e3]; exact (hs1 r hr s e).1)
        simp [updB] at this
       exact stableS q hq r hr s e hsq (Ne.symm e1) (fun p hp h3 h4 => by
        have h5 := hq2 p hp h3
        have h6 : L p.i = true := hdep p.i h4
        rw [h5] at h6; cases h6) us lo hi w w' n2 (fun j hj => (hbd q hq e2 j hj).2) (fun j hj => by
        have h3 := hbd q hq e2 j hj
        exact hdj j s (useIn q hq j hj) n5 h3.1 n1 (fun e4 => (hs1 r hr s e).2.2.2.2 q hq (Ne.symm hsq) e1 (by rw [← e4]; exact hj))) (hsp s e) hjq
     refine congr q hq _ _ _ _ _ _ _ (fun j hj => ?_) hjq'
     have := hune q hq e2 j hj
     simp [upd, updN, this]
   ·intro q hq h j hju
    rcases hin q hq h with rfl | ⟨e1, e2⟩
    ·rcases hu2 q hq j hju with rfl | ⟨p, hp, h1, h2⟩
     ·simp [updB, updN]; omega
     ·have h3 := hbd p hp (hdep' _ h1) j h2
      have hne := hune p hp (hdep' _ h1) j h2
      simp only [updB, updN, if_neg hne]
      exact ⟨h3.1, h3.2.1, h3.2.2.1, by omega⟩
    ·have h3 := hbd q hq e2 j hju
     have hne := hune q hq e2 j hju
     simp only [updB, updN, if_neg hne]
     exact ⟨h3.1, h3.2.1, h3.2.2.1, by omega⟩
   ·intro a b ha hb' h1 h2 hab
    have fin : ∀ c : Nat, (∃ x ∈ RS, x.i = c) → L c = true → w0.heap.size ≤ lo c ∧ lo c ≤ hi c ∧ hi c ≤ w.heap.size := fun c hc hl => by
     obtain ⟨x, hx, rfl⟩ := hc
     exact (hbd x hx hl x.i (hu1 x hx)).2
    by_cases ea : a = r.i
    ·have eb : b ≠ r.i := fun e => hab (by rw [ea, e])
     simp only [updB, if_neg eb] at h2
     have := fin b hb' h2
     right
     simp only [updN, if_pos ea, if_neg eb]
     exact this.2.2
    ·simp only [updB, if_neg ea] at h1
     have f1 := fin a ha h1
     by_cases eb : b = r.i
     ·left
      simp only [updN, if_pos eb, if_neg ea]
      exact f1.2.2
     ·simp only [updB, if_neg eb] at h2
      simp only [updN, if_neg ea, if_neg eb]
      exact hdj a b ha hb' h1 h2 hab
  ·cases e : r.src with
   | none => exact .inr (Keep.of_below (hb e))
   | some s => exact .inl (hs1 r hr s e).2.2.1
 ·intro L us w hall hI
  obtain ⟨lo, hi, hBw, hJ, hbd, hdj⟩ := hI
  have hL : ∀ r ∈ RS, L r.i = true := fun r hr => hall r.flo (List.mem_map_of_mem hr)
  exact last us lo hi w hBw (fun r hr h => hJ r hr (hL r hr) fun q hq hqs => absurd hqs (h q hq)) (fun r hr => (hbd r hr (hL r hr) r.i (hu1 r hr)).2) (fun r hr q hq hne => hdj r.i q.i ⟨r, hr, rfl⟩ ⟨q, hq, rfl⟩ (hL r hr) (hL q hq) hne)
end Go.Rg

end
section
namespace Go.Rg
open Go Go.RowKit Go.Rw
variable {P : Program}
def ExecM (P : Program) (ops : Array Oper) (R : List Flo) (a0 : Act) (w0 : World) (S : Nat → Prop) (St : Bool → World → Prop) (r : Flo) : Prop :=
 ∀ b us w, MutS S w0 w → St b w → (∀ r' ∈ R, r'.i ∈ r.deps → r'.J (us r'.i) w) → ∀ K : Act → World → Prop,
  (∀ v w', r.J v w' → Below w.heap.size w w' → K ((puts us R a0).put (some r.d) v) w') → (ops.toList.getD r.i default).wp P (puts us R a0) w K NoQ
theorem phase_one {ops : Array Oper} {Q : Exit → Act → World → Prop} {R : List Flo} {X tail : List Nat} {a0 : Act} {w0 : World} (S : Nat → Prop) (St : Bool → World → Prop) (c : Nat) (rc : Flo) (hX : X.contains c = true) (hn : (R.map (·.i)).Nodup)
  (hd : ∀ r ∈ R, ∀ d ∈ r.deps, ∃ r' ∈ R, r'.i = d)
  (init : St false w0) (stB : ∀ b w w', Below w.heap.size w w' → St b w → St b w') (stJ : ∀ r ∈ R, ∀ v w w', MutS S w w' → r.J v w → r.J v w')
  (hrc : rc ∈ R) (hci : rc.i = c) (exec : ∀ r ∈ R, r.i = c ∨ ExecM P ops R a0 w0 S St r)
  (call : ∀ us w, MutS S w0 w → St false w → (∀ r' ∈ R, r'.i ∈ rc.deps → r'.J (us r'.i) w) → ∀ K : Act → World → Prop,
   (∀ v w', rc.J v w' → MutS S w w' → St true w' → K ((puts us R a0).put (some rc.d) v) w') → (ops.toList.getD rc.i default).wp P (puts us R a0) w K NoQ)
  (last : ∀ us w, MutS S w0 w → St true w → (∀ r ∈ R, r.J (us r.i) w) → wpList P ops (Calm Q) (tail.map fun i => ops.toList.getD i default) (puts us R a0) w) :
  ∃ I, PhaseI P ops Q R X tail a0 w0 I := by
 have inj : ∀ a ∈ R, ∀ b ∈ R, a.i = b.i → a = b := by
  clear hd init stB stJ hrc exec call last
  induction R with
  | nil => intro a ha; cases ha
  | cons r R ih =>
   intro a ha b hb e
   simp only [List.map_cons, List.nodup_cons] at hn
   rcases List.mem_cons.1 ha with h1 | h1 <;> rcases List.mem_cons.1 hb with h2 | h2
   ·rw [h1, h2]
   ·exact absurd (by rw [← h1, e]; exact List.mem_map_of_mem h2) hn.1
   ·exact absurd (by rw [← h2, ← e]; exact List.mem_map_of_mem h1) hn.1
   ·exact ih hn.2 a h1 b h2 e
 refine ⟨fun L us w => MutS S w0 w ∧ St (L c) w ∧ ∀ r ∈ R, L r.i = true → r.J (us r.i) w, ?_, ?_, ?_⟩
 ·intro us
  exact ⟨MutS.refl _ _, init, fun _ _ h => by cases h⟩
 ·intro r hr L us w hnot hdep hI K hK
  obtain ⟨hm, hs, hJ⟩ := hI
  have hJ' : ∀ r' ∈ R, r'.i ∈ r.deps → r'.J (us r'.i) w := fun r' hr' hi => hJ r' hr' (hdep _ hi)
  have fin : ∀ v w', r.J v w' → MutS S w w' → ∀ r' ∈ R, updB L r.i r'.i = true → r'.J (upd us r.i v r'.i) w' := fun v w' hv hmw r' hr' hL => by
   by_cases e : r'.i = r.i
   ·obtain rfl := inj r' hr' r hr e
    simp [upd]; exact hv
   ·simp only [updB, if_neg e] at hL
    simp only [upd, if_neg e]
    exact stJ r' hr' _ w w' hmw (hJ r' hr' hL)
  by_cases e : r.i = c
  ·have hs' : St false w := by rw [← e] at hs; rw [hnot] at hs; exact hs
   obtain rfl := inj r hr rc hrc (e.trans hci.symm)
   refine call us w hm hs' hJ' K fun v w' hv hmw hst => hK v w' ⟨hm.trans hmw, ?_, fin v w' hv hmw⟩ (.inl (by rw [e]; exact hX))
   simp only [updB, if_pos e.symm]; exact hst
  ·refine (exec r hr).elim (fun h => absurd h e) (fun h => h _ us w hm hs hJ' K fun v w' hv hb => ?_)
   refine hK v w' ⟨hm.below' hb, ?_, fin v w' hv (MutS.of_below hb)⟩ (.inr (Keep.of_below hb))
   simp only [updB, if_neg (Ne.symm e)]
   exact stB _ w w' hb hs
 ·intro L us w hL hI
  obtain ⟨hm, hs, hJ⟩ := hI
  have := hL rc hrc
  rw [hci] at this
  rw [this] at hs
  exact last us w hm hs fun r' hr' => hJ r' hr' (hL r' hr')
theorem em_gen {ops : Array Oper} {R : List Flo} {a0 : Act} {w0 : World} {S : Nat → Prop} {St : Bool → World → Prop} (i : Nat) (d : Tmp) (deps : List Nat) (fr : Bool) (J : Value → World → Prop) (hd : (ops.toList.getD i default).dst = some d)
  (hx : ∀ b us w, MutS S w0 w → St b w → (∀ r' ∈ R, r'.i ∈ deps → r'.J (us r'.i) w) → ∃ v w', (execOp (puts us R a0).eval (ops.toList.getD i default)).run P w = .ok (.value v) w' ∧ J v w' ∧ Below w.heap.size w w') :
  ExecM P ops R a0 w0 S St ⟨i, d, deps, fr, J⟩ := by
 intro b us w hm hs hdep K hK
 obtain ⟨v, w', hr, hj, hb⟩ := hx b us w hm hs hdep
 show (ops.toList.getD i default).wp P (puts us R a0) w K NoQ
 refine exec_value hr ?_
 rw [hd]
 exact hK v w' hj hb
theorem em_load {ops : Array Oper} {R : List Flo} {a0 : Act} {w0 : World} {S : Nat → Prop} {St : Bool → World → Prop} (i : Nat) (d : Tmp) (deps : List Nat) {t : TypeId} {x : Operand} {xv v : Value} (hd : (ops.toList.getD i default).dst = some d)
  (ho : (ops.toList.getD i default).op = .load t x) (ha : ∀ us, (puts us R a0).eval x = xv) (hs : ∀ b w, St b w → (Instr.loadAt t xv).run P w = .ok v w) : ExecM P ops R a0 w0 S St ⟨i, d, deps, false, fun u _ => u = v⟩ :=
 em_gen i d deps false _ hd fun b us w _ hst _ => ⟨v, w, run_exec_load ho (ha us) (hs b w hst), rfl, Below.refl _ _⟩
theorem run_exec_conv {o : Oper} {ρ : Operand → Value} {w : World} {src dst : TypeId} {x : Operand} {xv v : Value} (ho : o.op = .convert src dst x) (hx : ρ x = xv) (hs : (convert src dst xv).run P w = .ok v w) : (execOp ρ o).run P w = .ok (.value v) w := by
 simp only [execOp, ho, hx, Sem.run_bind, hs, Result.andThen_ok]
 rfl
theorem run_exec_bin {o : Oper} {ρ : Operand → Value} {w : World} {op : BinOp} {t u : TypeId} {x y : Operand} {xv yv v : Value} (ho : o.op = .binOp op t x y u) (hx : ρ x = xv) (hy : ρ y = yv) (hs : ((eqGuard op t x y xv yv).run P w).andThen (fun _ w' => (binOp op t xv yv).run P w') = .ok v w) : (execOp ρ o).run P w = .ok (.value v) w := by
 simp only [execOp, ho, hx, hy, Sem.run_bind, hs, Result.andThen_ok]
 rfl
theorem em_conv {ops : Array Oper} {R : List Flo} {a0 : Act} {w0 : World} {S : Nat → Prop} {St : Bool → World → Prop} (i : Nat) (d : Tmp) (k : Nat) {src dst : TypeId} {x : Operand} (Jk J : Value → World → Prop) (hd : (ops.toList.getD i default).dst = some d)
  (ho : (ops.toList.getD i default).op = .convert src dst x) (ha : ∀ us, (puts us R a0).eval x = us k) (rk : Flo) (hrk : rk ∈ R) (hi : rk.i = k) (hJ : rk.J = Jk) (hc : ∀ v w, Jk v w → ∃ u, (convert src dst v).run P w = .ok u w ∧ J u w) : ExecM P ops R a0 w0 S St ⟨i, d, [k], false, J⟩ := by
 refine em_gen i d [k] false _ hd fun b us w _ _ hdep => ?_
 have h := hdep rk hrk (by rw [hi]; simp)
 rw [hJ, hi] at h
 obtain ⟨u, h1, h2⟩ := hc _ _ h
 exact ⟨u, w, run_exec_conv ho (ha us) h1, h2, Below.refl _ _⟩
theorem em_bin {ops : Array Oper} {R : List Flo} {a0 : Act} {w0 : World} {S : Nat → Prop} {St : Bool → World → Prop} (i : Nat) (d : Tmp) (k : Nat) {op : BinOp} {t u : TypeId} {x y : Operand} {yv : Value} (Jk J : Value → World → Prop) (hd : (ops.toList.getD i default).dst = some d)
  (ho : (ops.toList.getD i default).op = .binOp op t x y u) (ha : ∀ us, (puts us R a0).eval x = us k) (hy : ∀ us, (puts us R a0).eval y = yv) (rk : Flo) (hrk : rk ∈ R) (hi : rk.i = k) (hJ : rk.J = Jk)
  (hc : ∀ v w, Jk v w → ∃ z, ((eqGuard op t x y v yv).run P w).andThen (fun _ w' => (binOp op t v yv).run P w') = .ok z w ∧ J z w) : ExecM P ops R a0 w0 S St ⟨i, d, [k], false, J⟩ := by
 refine em_gen i d [k] false _ hd fun b us w _ _ hdep => ?_
 have h := hdep rk hrk (by rw [hi]; simp)
 rw [hJ, hi] at h
 obtain ⟨z, h1, h2⟩ := hc _ _ h
 exact ⟨z, w, run_exec_bin ho (ha us) (hy us) h1, h2, Below.refl _ _⟩
theorem em_bs4 {ops : Array Oper} {R : List Flo} {a0 : Act} {w0 : World} {S : Nat → Prop} {St : Bool → World → Prop} (i : Nat) (d : Tmp) (k0 k1 k2 k3 : Nat) {t e : TypeId} {x0 x1 x2 x3 : Operand} {inf : TypeInfo} (N : Nat) (hN : N ≤ w0.heap.size) (hd : (ops.toList.getD i default).dst = some d)
  (ho : (ops.toList.getD i default).op = .buildSlice t 4 #[(0, x0), (1, x1), (2, x2), (3, x3)]) (h0 : ∀ us, (puts us R a0).eval x0 = us k0) (h1 : ∀ us, (puts us R a0).eval x1 = us k1) (h2 : ∀ us, (puts us R a0).eval x2 = us k2) (h3 : ∀ us, (puts us R a0).eval x3 = us k3)
  (ht : P.underlying t = some (.slice e)) (hi : P.info? e = some inf) (hz : inf.zero = some (.int .u8 0)) (hsz : inf.size = 1) (rs : ∀ k ∈ [k0, k1, k2, k3], ∃ r ∈ R, r.i = k ∧ r.J = fun v _ => ∃ b : UInt8, v = .int .u8 (n8 b : Nat)) :
  ExecM P ops R a0 w0 S St ⟨i, d, [k0, k1, k2, k3], false, fun v w' => ∃ l : List UInt8, l.length = 4 ∧ w'.ownsRow N e 1 v l.length (l.map bv)⟩ := by
 refine em_gen i d _ false _ hd fun b us w hm _ hdep => ?_
 have get : ∀ k ∈ [k0, k1, k2, k3], ∃ b : UInt8, us k = .int .u8 (n8 b : Nat) := fun k hk => by
  obtain ⟨r, hr, e1, e2⟩ := rs k hk
  have h := hdep r hr (by rw [e1]; exact hk)
  rw [e2, e1] at h; exact h
 obtain ⟨b0, g0⟩ := get k0 (by simp)
 obtain ⟨b1, g1⟩ := get k1 (by simp)
 obtain ⟨b2, g2⟩ := get k2 (by simp)
 obtain ⟨b3, g3⟩ := get k3 (by simp)
 refine ⟨.slice (some ⟨w.heap.size, 0, none⟩) 4 4, w.alloc (.cells (bvs [b0, b1, b2, b3]) e), ?_, ⟨[b0, b1, b2, b3], rfl, ?_⟩, (Below.refl _ _).alloc (Nat.le_refl _) _⟩
 ·refine (run_exec_bslice (P := P) t e 1 #[(0, x0), (1, x1), (2, x2), (3, x3)] [.int .u8 (n8 b0 : Nat), .int .u8 (n8 b1 : Nat), .int .u8 (n8 b2 : Nat), .int .u8 (n8 b3 : Nat)] ho (by decide) inf (.int .u8 0) ht hi hz hsz (by simp) (by simp) ?_ ?_).trans ?_
  ·simp [h0, h1, h2, h3, g0, g1, g2, g3, List.zipIdx]
  ·intro v hv; simp at hv; rcases hv with rfl | rfl | rfl | rfl <;> rfl
  ·rfl
 ·exact World.ownsRow_lit (base := N) (size := 1) (e := e) w (bvs [b0, b1, b2, b3]) 4 (Nat.le_trans hN hm.size) (by unfold maxLen; omega) (by rw [bvs_size]; rfl)
end Go.Rg

end
section
namespace Go.Proofs.YthjbmggpleliaaaGreatDoor
open Go.RowKit Go.Rw Aes Hdr Vlt Hst
theorem cfDraw (args : Array Value) (w : World) : (callFunc 37 args).run Tryz.prog w = .ok (.enter 37 args) w := by kernel_rfl
theorem conv8 (x : Int) (w : World) : ∃ b : UInt8, (convert 3 5 (.int .i64 x)).run Tryz.prog w = .ok (.int .u8 (n8 b : Nat)) w := by
 refine ⟨UInt8.ofNat (x % 256).toNat, ?_⟩
 go_simp
 rw [n8_ofNat _ (by omega)]
 simp [IntKind.wrap, IntKind.bits, IntKind.signed]
 omega
theorem ld64 {w : World} {b i : Nat} {x : Int} (c : w.cell? ⟨b, i, none⟩ = some (.int .i64 x)) : (Instr.loadAt 3 (.pointer (some ⟨b, i, none⟩))).run Tryz.prog w = .ok (.int .i64 x) w := by
 go_simp
theorem shr64 (m : Nat) (c : Nat) (w : World) (x : Operand) : ∃ z : Int, ((eqGuard .shr 3 x (.const (.int .u64 (c : Nat))) (.int .i64 (m : Nat)) (.int .u64 (c : Nat))).run Tryz.prog w).andThen (fun _ w' => (binOp .shr 3 (.int .i64 (m : Nat)) (.int .u64 (c : Nat))).run Tryz.prog w') = .ok (.int .i64 z) w := by
 refine ⟨(m : Int) / 2 ^ (min c 64), ?_⟩
 go_simp
set_option maxRecDepth 100000 in
set_option maxHeartbeats 4000000 in
theorem name_any (H : Nat) (s : HS) (T : List UInt8) (hT : T.length ≤ 1000000) (hat : s.at_ ≤ 1000000) (hma : s.made ≤ 1000000) (hro : s.role ≤ 1) (N : Nat) (w : World) (hr : HR w H s) (ht : OwnB w N s.tape T) :
  Calls Tryz.prog 21 #[.pointer (some ⟨H, 0, none⟩)] w fun e w' => ∃ v l, e = .returned v ∧ l.length = 8 ∧ OwnB w' w.heap.size v l ∧ HR w' H { s with at_ := s.at_ + 4, made := s.made + 1 } ∧ MutS (fun k => k = H) w w' := by
 obtain ⟨i0, hi, hz0, hz1, hz2⟩ := info_parts info8
 have c8 : w.cell? ⟨H, 8, none⟩ = some (.int .i64 (s.made : Nat)) := hr.c 8
 have f8 := hr.f 8
 obtain ⟨m1, hm1⟩ : ∃ m1 : Nat, s.made + 1 = m1 := ⟨_, rfl⟩
 have q1 : (s.made : Int) + 1 = (m1 : Nat) := by omega
 have e1 := wrap_nat q1 (by omega)
 have HRr := Lib.hid hr
 have HTt := Lib.hid ht
 have HN := Lib.hid (And.intro hT (And.intro hat (And.intro hma (And.intro hro hm1))))
 clear hr ht hT hat hma hro hm1 q1
 go_enter Tryz.func21, Tryz.ntmps21
 go_wp2_with fail
 have R1 := Lib.hid (show HR (w.setCell ⟨H, 8, none⟩ (.int .i64 (m1 : Nat))) H { s with made := m1 } from HRr.out.set 8 _)
 have M1 := Lib.hid (show MutS (fun k => k = H) w (w.setCell ⟨H, 8, none⟩ (.int .i64 (m1 : Nat))) from (MutS.refl _ w).setCell H 8 none _ (.inl rfl))
 have z1 : (w.setCell ⟨H, 8, none⟩ (.int .i64 (m1 : Nat))).heap.size = w.heap.size := by simp
 have HZ1 := Lib.hid z1
 generalize w.setCell ⟨H, 8, none⟩ (.int .i64 (m1 : Nat)) = w1 at R1 M1 HZ1 ⊢
 clear c8 f8 z1 e1
 have hH : H < w1.heap.size := R1.out.lt
 refine Rg.wp_region_inv [(0, 3), (2, 3), (3, 3), (4, 3), (7, 3), (8, 3), (9, 3), (13, 3), (14, 3), (15, 3), (19, 3), (20, 3), (21, 3)] [
   ⟨1, 11, [], false, fun v w' => ∃ l : List UInt8, l.length = 4 ∧ w'.ownsRow w1.heap.size 5 1 v l.length (l.map bv)⟩,
   ⟨5, 15, [], false, fun v _ => v = .int .i64 (s.role : Nat)⟩,
   ⟨6, 16, [5], false, fun v _ => ∃ b : UInt8, v = .int .u8 (n8 b : Nat)⟩,
   ⟨10, 20, [], false, fun v _ => v = .int .i64 (m1 : Nat)⟩,
   ⟨11, 21, [10], false, fun v _ => ∃ z : Int, v = .int .i64 z⟩,
   ⟨12, 22, [11], false, fun v _ => ∃ b : UInt8, v = .int .u8 (n8 b : Nat)⟩,
   ⟨16, 26, [], false, fun v _ => v = .int .i64 (m1 : Nat)⟩,
   ⟨17, 27, [16], false, fun v _ => ∃ z : Int, v = .int .i64 z⟩,
   ⟨18, 28, [17], false, fun v _ => ∃ b : UInt8, v = .int .u8 (n8 b : Nat)⟩,
   ⟨22, 32, [], false, fun v _ => v = .int .i64 (m1 : Nat)⟩,
   ⟨23, 33, [22], false, fun v _ => ∃ b : UInt8, v = .int .u8 (n8 b : Nat)⟩,
   ⟨24, 34, [6, 12, 18, 23], false, fun v w' => ∃ l : List UInt8, l.length = 4 ∧ w'.ownsRow w1.heap.size 5 1 v l.length (l.map bv)⟩] [(1, 11, []), (5, 15, []), (6, 16, [5]), (10, 20, []), (11, 21, [10]), (12, 22, [11]), (16, 26, []), (17, 27, [16]), (18, 28, [17]), (22, 32, []), (23, 33, [22]), (24, 34, [6, 12, 18, 23])] [1, 25, 26] [25, 26] (by kernel_rfl) (by kernel_rfl) rfl (by kernel_rfl) ?_
 simp only [Rg.row, Rg.PT.map, List.getD_cons_zero, List.getD_cons_succ]
 go_wp2_with (first
  |(with_reducible refine Rg.plan_pure ?_ ?_ ?_); kernel_rfl; kernel_rfl; intro _ _|(with_reducible refine Rg.plan_take ?_ ?_ ?_); kernel_rfl; kernel_rfl; intro _ _|(with_reducible refine Rg.plan_keep ?_ ?_); kernel_rfl; intro K hK|refine hK _ _ (Rg.Keep.refl _) ?_; clear hK|refine hK _ _ (Rg.Keep.of_below (by assumption)) ?_; clear hK|(with_reducible refine Rg.plan_skip ?_ ?_); kernel_rfl|(with_reducible refine Rg.plan_done ?_)|(with_reducible refine Rg.calm_normal ?_))
 refine Rg.phase_one (w0 := w1.drew) (fun k => k = H) (fun b w' => HR w' H (if b then { s with made := m1, at_ := s.at_ + 4 } else { s with made := m1 })) 1 ⟨1, 11, [], false, fun v w' => ∃ l : List UInt8, l.length = 4 ∧ w'.ownsRow w1.heap.size 5 1 v l.length (l.map bv)⟩ (by kernel_rfl) (by simp) ?_ ?_ ?_ ?_ (List.getElem_mem (n := 0) (by simp)) rfl ?_ ?_ ?_
 ·simp
 ·exact R1.out.drew
 ·intro b w w' hb h
  exact HR.below h hb
 ·have own : ∀ v w w', MutS (fun k => k = H) w w' → (∃ l : List UInt8, l.length = 4 ∧ w.ownsRow w1.heap.size 5 1 v l.length (l.map bv)) → ∃ l : List UInt8, l.length = 4 ∧ w'.ownsRow w1.heap.size 5 1 v l.length (l.map bv) := by
   rintro v w w' hm ⟨l, h1, h2⟩
   exact ⟨l, h1, hm.own h2 fun k hk e => by have := (h2.lt k hk).1; omega⟩
  refine List.forall_mem_cons.2 ⟨?_, List.forall_mem_cons.2 ⟨?_, List.forall_mem_cons.2 ⟨?_, List.forall_mem_cons.2 ⟨?_, List.forall_mem_cons.2 ⟨?_, List.forall_mem_cons.2 ⟨?_, List.forall_mem_cons.2 ⟨?_, List.forall_mem_cons.2 ⟨?_, List.forall_mem_cons.2 ⟨?_, List.forall_mem_cons.2 ⟨?_, List.forall_mem_cons.2 ⟨?_, List.forall_mem_cons.2 ⟨?_, fun r hr => (by cases hr)⟩⟩⟩⟩⟩⟩⟩⟩⟩⟩⟩⟩
  ·exact own
  ·exact fun v w1 w2 _ h => h
  ·exact fun v w1 w2 _ h => h
  ·exact fun v w1 w2 _ h => h
  ·exact fun v w1 w2 _ h => h
  ·exact fun v w1 w2 _ h => h
  ·exact fun v w1 w2 _ h => h
  ·exact fun v w1 w2 _ h => h
  ·exact fun v w1 w2 _ h => h
  ·exact fun v w1 w2 _ h => h
  ·exact fun v w1 w2 _ h => h
  ·exact own
 ·refine List.forall_mem_cons.2 ⟨?_, List.forall_mem_cons.2 ⟨?_, List.forall_mem_cons.2 ⟨?_, List.forall_mem_cons.2 ⟨?_, List.forall_mem_cons.2 ⟨?_, List.forall_mem_cons.2 ⟨?_, List.forall_mem_cons.2 ⟨?_, List.forall_mem_cons.2 ⟨?_, List.forall_mem_cons.2 ⟨?_, List.forall_mem_cons.2 ⟨?_, List.forall_mem_cons.2 ⟨?_, List.forall_mem_cons.2 ⟨?_, fun r hr => (by cases hr)⟩⟩⟩⟩⟩⟩⟩⟩⟩⟩⟩⟩
  ·exact .inl rfl
  ·with_reducible refine .inr (Rg.em_load 5 15 [] (t := 3) (x := .tmp 14) (xv := .pointer (some ⟨H, 0, none⟩)) (v := .int .i64 (s.role : Nat)) ?_ ?_ ?_ ?_)
   ·kernel_rfl
   ·kernel_rfl
   ·intro us; kernel_rfl
   ·exact fun b w hs => ld64 (by cases b <;> exact HR.c hs 0)
  ·with_reducible refine .inr (Rg.em_conv 6 16 5 (src := 3) (dst := 5) (x := .tmp 15) (fun v _ => v = .int .i64 (s.role : Nat)) (fun v _ => ∃ b : UInt8, v = .int .u8 (n8 b : Nat)) ?_ ?_ ?_ _ (List.getElem_mem (n := 1) (by simp)) rfl rfl ?_)
   ·kernel_rfl
   ·kernel_rfl
   ·intro us; kernel_rfl
   ·rintro v w rfl
    obtain ⟨c, hc⟩ := conv8 _ w
    exact ⟨_, hc, c, rfl⟩
  ·with_reducible refine .inr (Rg.em_load 10 20 [] (t := 3) (x := .tmp 19) (xv := .pointer (some ⟨H, 8, none⟩)) (v := .int .i64 (m1 : Nat)) ?_ ?_ ?_ ?_)
   ·kernel_rfl
   ·kernel_rfl
   ·intro us; kernel_rfl
   ·exact fun b w hs => ld64 (by cases b <;> exact HR.c hs 8)
  ·with_reducible refine .inr (Rg.em_bin 11 21 10 (op := .shr) (t := 3) (u := 51) (x := .tmp 20) (y := .const (.int .u64 16)) (yv := .int .u64 16) (fun v _ => v = .int .i64 (m1 : Nat)) (fun v _ => ∃ z : Int, v = .int .i64 z) ?_ ?_ ?_ ?_ _ (List.getElem_mem (n := 3) (by simp)) rfl rfl ?_)
   ·kernel_rfl
   ·kernel_rfl
   ·intro us; kernel_rfl
   ·intro us; kernel_rfl
   ·rintro v w rfl
    obtain ⟨z, hz⟩ := shr64 m1 16 w (.tmp 20)
    exact ⟨_, hz, z, rfl⟩
  ·with_reducible refine .inr (Rg.em_conv 12 22 11 (src := 3) (dst := 5) (x := .tmp 21) (fun v _ => ∃ z : Int, v = .int .i64 z) (fun v _ => ∃ b : UInt8, v = .int .u8 (n8 b : Nat)) ?_ ?_ ?_ _ (List.getElem_mem (n := 4) (by simp)) rfl rfl ?_)
   ·kernel_rfl
   ·kernel_rfl
   ·intro us; kernel_rfl
   ·rintro v w ⟨z, rfl⟩
    obtain ⟨c, hc⟩ := conv8 _ w
    exact ⟨_, hc, c, rfl⟩
  ·with_reducible refine .inr (Rg.em_load 16 26 [] (t := 3) (x := .tmp 25) (xv := .pointer (some ⟨H, 8, none⟩)) (v := .int .i64 (m1 : Nat)) ?_ ?_ ?_ ?_)
   ·kernel_rfl
   ·kernel_rfl
   ·intro us; kernel_rfl
   ·exact fun b w hs => ld64 (by cases b <;> exact HR.c hs 8)
  ·with_reducible refine .inr (Rg.em_bin 17 27 16 (op := .shr) (t := 3) (u := 51) (x := .tmp 26) (y := .const (.int .u64 8)) (yv := .int .u64 8) (fun v _ => v = .int .i64 (m1 : Nat)) (fun v _ => ∃ z : Int, v = .int .i64 z) ?_ ?_ ?_ ?_ _ (List.getElem_mem (n := 6) (by simp)) rfl rfl ?_)
   ·kernel_rfl
   ·kernel_rfl
   ·intro us; kernel_rfl
   ·intro us; kernel_rfl
   ·rintro v w rfl
    obtain ⟨z, hz⟩ := shr64 m1 8 w (.tmp 26)
    exact ⟨_, hz, z, rfl⟩
  ·with_reducible refine .inr (Rg.em_conv 18 28 17 (src := 3) (dst := 5) (x := .tmp 27) (fun v _ => ∃ z : Int, v = .int .i64 z) (fun v _ => ∃ b : UInt8, v = .int .u8 (n8 b : Nat)) ?_ ?_ ?_ _ (List.getElem_mem (n := 7) (by simp)) rfl rfl ?_)
   ·kernel_rfl
   ·kernel_rfl
   ·intro us; kernel_rfl
   ·rintro v w ⟨z, rfl⟩
    obtain ⟨c, hc⟩ := conv8 _ w
    exact ⟨_, hc, c, rfl⟩
  ·with_reducible refine .inr (Rg.em_load 22 32 [] (t := 3) (x := .tmp 31) (xv := .pointer (some ⟨H, 8, none⟩)) (v := .int .i64 (m1 : Nat)) ?_ ?_ ?_ ?_)
   ·kernel_rfl
   ·kernel_rfl
   ·intro us; kernel_rfl
   ·exact fun b w hs => ld64 (by cases b <;> exact HR.c hs 8)
  ·with_reducible refine .inr (Rg.em_conv 23 33 22 (src := 3) (dst := 5) (x := .tmp 32) (fun v _ => v = .int .i64 (m1 : Nat)) (fun v _ => ∃ b : UInt8, v = .int .u8 (n8 b : Nat)) ?_ ?_ ?_ _ (List.getElem_mem (n := 9) (by simp)) rfl rfl ?_)
   ·kernel_rfl
   ·kernel_rfl
   ·intro us; kernel_rfl
   ·rintro v w rfl
    obtain ⟨c, hc⟩ := conv8 _ w
    exact ⟨_, hc, c, rfl⟩
  ·with_reducible refine .inr (Rg.em_bs4 24 34 6 12 18 23 (t := 22) (e := 5) (x0 := .tmp 16) (x1 := .tmp 22) (x2 := .tmp 28) (x3 := .tmp 33) (inf := i0) w1.heap.size (Nat.le_refl _) ?_ ?_ ?_ ?_ ?_ ?_ Tryz.underlying22 hi hz0 hz1 ?_)
   ·kernel_rfl
   ·kernel_rfl
   ·intro us; kernel_rfl
   ·intro us; kernel_rfl
   ·intro us; kernel_rfl
   ·intro us; kernel_rfl
   ·intro k hk
    simp only [List.mem_cons, List.not_mem_nil, or_false] at hk
    rcases hk with rfl | rfl | rfl | rfl
    ·exact ⟨_, List.getElem_mem (n := 2) (by simp), rfl, rfl⟩
    ·exact ⟨_, List.getElem_mem (n := 5) (by simp), rfl, rfl⟩
    ·exact ⟨_, List.getElem_mem (n := 8) (by simp), rfl, rfl⟩
    ·exact ⟨_, List.getElem_mem (n := 10) (by simp), rfl, rfl⟩
 ·intro us wx hm hst hdep K hK
  have hat := HN.out.2.1
  have hb0 : Below w1.heap.size w1 wx ∨ True := .inr trivial
  refine Rg.exec_fun (args := #[.pointer (some ⟨H, 0, none⟩), .int .i64 (4 : Nat)]) cfDraw rfl (by kernel_rfl) (draw_any H { s with made := m1 } 4 (by omega) T HN.out.1 hat HN.out.2.2.2.1 N wx hst ((HTt.out.keep M1.out fun q hq => HTt.out.ne HRr.out q hq).keep hm fun q hq => (HTt.out.keep M1.out fun q hq => HTt.out.ne HRr.out q hq).ne R1.out q hq)) ?_
  rintro e wy ⟨l, rfl, hl, hg, hh, hmm⟩
  refine ⟨_, rfl, hK _ _ ⟨l, hl, ?_⟩ hmm hh⟩
  rw [hl]
  exact own_of_RT hg hl hm.size (by omega)
 ·intro us w2 hm hst hJ
  simp only [List.forall_mem_cons] at hJ
  obtain ⟨⟨l1, hl1, o1⟩, -, -, -, -, -, -, -, -, -, -, ⟨l2, hl2, o2⟩, -⟩ := hJ
  simp only [Rg.puts, List.map_cons, List.map_nil, List.getD_cons_zero, List.getD_cons_succ]
  generalize us 1 = x1 at *
  generalize us 24 = x24 at *
  have O1 := Lib.hid o1
  have O2 := Lib.hid o2
  have HL := Lib.hid (And.intro hl1 hl2)
  have HS := Lib.hid hst
  have HM := Lib.hid hm
  clear o1 o2 hl1 hl2 hst hm R1
  have hsz := HM.out.size
  go_wp2_with (at_builtin; refine Classical.byContradiction ?_)
  intro hh; apply hh; clear hh
  refine app_sl rfl _ _ 22 rfl w1.heap.size 5 i0 Tryz.underlying22 hi hz0 hz1 hz2 x1 l1 rfl O1.out x24 l2 rfl (Own.sl O2.out) (by have := HL.out; omega) hsz ?_
  intro v3 w3 o3 g3
  have O3 := Lib.hid o3
  have G3 := Lib.hid g3
  clear o3 g3
  go_wp2_with (first
   |(with_reducible refine Rg.plan_pure ?_ ?_ ?_); kernel_rfl; kernel_rfl; intro _ _|(with_reducible refine Rg.plan_take ?_ ?_ ?_); kernel_rfl; kernel_rfl; intro _ _|(with_reducible refine Rg.plan_keep ?_ ?_); kernel_rfl; intro K hK|refine hK _ _ (Rg.Keep.refl _) ?_; clear hK|refine hK _ _ (Rg.Keep.of_below (by assumption)) ?_; clear hK|(with_reducible refine Rg.plan_skip ?_ ?_); kernel_rfl|(with_reducible refine Rg.plan_done ?_)|(with_reducible refine Rg.calm_normal ?_))
  go_ret
  have hown : ∀ b, x1.ownBlock = some b → w1.heap.size ≤ b := fun b hb => (O1.out.lt b hb).1
  refine ⟨_, l1 ++ l2, rfl, by simp [HL.out.1, HL.out.2], own_lower O3.out (by rw [HZ1.out]; exact Nat.le_refl _), ?_, ?_⟩
  ·have h := HR.keep HS.out (MutS.of_grown (S := fun k => w1.heap.size ≤ k) G3.out fun b e => .inl (hown b e)) (by omega)
   have e : s.made + 1 = m1 := HN.out.2.2.2.2
   rw [e]
   exact h
  ·have h1 : MutS (fun k => k = H) w1 w2 := ⟨HM.out.os, HM.out.tape, HM.out.output, HM.out.size, HM.out.block⟩
   exact M1.out.trans (h1.grown G3.out fun b e => .inr (hown b e))
end Go.Proofs.YthjbmggpleliaaaGreatDoor

end
