/- A region that draws its order, some operations in any order, by an invariant over which of them are done. Over any program. -/
import Derived.Test.YtjlpppnpdgenfaaMvaLibF
namespace Go.Rg
open Go Go.RowKit Go.Rw
variable {P : Program}
/-- What the region's middle keeps, told by which operations are done, and by their values. -/
abbrev Inv := (Nat → Bool) → (Nat → Value) → World → Prop
def updB (L : Nat → Bool) (i : Nat) (j : Nat) : Bool := if j = i then true else L j
structure PhaseI (P : Program) (ops : Array Oper) (Q : Exit → Act → World → Prop) (R : List Flo) (X : List Nat) (tail : List Nat) (a0 : Act) (w0 : World) (I : Inv) : Prop where
  init : ∀ us, I (fun _ => false) us w0
  exec : ∀ r ∈ R, ∀ L us w, L r.i = false → (∀ d ∈ r.deps, L d = true) → I L us w → ∀ K : Act → World → Prop,
    (∀ v w', I (updB L r.i) (upd us r.i v) w' → (X.contains r.i = true ∨ Keep w w') → K ((puts us R a0).put (some r.d) v) w') →
    (ops.toList.getD r.i default).wp P (puts us R a0) w K NoQ
  last : ∀ L us w, (∀ r ∈ R, L r.i = true) → I L us w → wpList P ops (Calm Q) (tail.map fun i => ops.toList.getD i default) (puts us R a0) w
def depsIn (R : List Flo) : Bool := R.all fun r => r.deps.all fun d => (R.map (·.i)).contains d

def floR8 (ops : Array Oper) (R : List (Nat × Tmp × List Nat)) (tail : List Nat) : Bool :=
  R.all fun r => (match ops[r.1]? with
    | some o => o.dst == some r.2.1 && o.guard.isNone && !tail.contains r.1 && r.2.2.all (fun x => Region.waitsFor .any ops r.1 x) && o.after.all fun e => !Region.binds .any e || (decide (e.on < ops.size) && !tail.contains e.on && (!(R.map (·.1)).contains e.on || decide (e.on < r.1)))
    | none => false) && tail.all fun t => behindB .any ops 8 t r.1
theorem wpAnyX_inv {ops : Array Oper} {Q : Exit → Act → World → Prop} {R : List Flo} {X tail : List Nat} {a0 : Act} {w0 : World} {L0 : Array Bool} {I : Inv} (ph : PhaseI P ops Q R X tail a0 w0 I) (ph_deps : depsIn R = true) (_ : ∀ t ∈ tail, X.contains t = true)
    (hni : (R.map (·.i)).Nodup) (hnd : (R.map (·.d)).Nodup) (hR : floR8 ops (R.map key) tail = true) (hL : floL (R.map key) tail L0 = true) (hsz : L0.size = ops.size)
    (hT : tailB .any ops X tail tail.length (setAll (R.map (·.i)) L0) = true) :
    ∀ (n : Nat) (S : List Nat) (L : Array Bool) (us : Nat → Value) (w : World), S.length = n → S.Nodup → (∀ s ∈ S, s ∈ R.map (·.i)) → L.size = ops.size →
      (∀ j, j < ops.size → L.getD j false = (!(S.contains j || tail.contains j))) → Shut .any ops L →
      I (fun j => (R.map (·.i)).contains j && !S.contains j) us w →
      wpAnyX P .any ops (Calm Q) (fun i => X.contains i) (n + tail.length) L (puts us R a0) w := by
  have hkey : (R.map key).map (·.1) = R.map (·.i) := by simp [key]
  intro n
  induction n with
  | zero =>
    intro S L us w hS _ _ hLs hLv _ hI
    obtain rfl : S = [] := List.eq_nil_of_length_eq_zero hS
    have hLe : L = setAll (R.map (·.i)) L0 := by
      apply Array.ext (by rw [setAll_size, hLs, hsz])
      intro j h1 h2
      have e1 := hLv j (by omega)
      have e2 := setAll_getD (R.map (·.i)) L0 j (by omega)
      have hlj := List.all_eq_true.1 hL j (by simp; omega)
      rw [hkey] at hlj
      have e3 : L.getD j false = (setAll (R.map (·.i)) L0).getD j false := by
        rw [e1, e2]
        by_cases hc : tail.contains j = true
        · have hnr : (R.map (·.i)).contains j = false := by
            cases hq : (R.map (·.i)).contains j with
            | false => rfl
            | true =>
              exfalso
              obtain ⟨r, hr, hrj⟩ := List.mem_map.1 (by simpa using hq : j ∈ R.map (·.i))
              have := List.all_eq_true.1 hR (key r) (List.mem_map_of_mem hr)
              simp only [Bool.and_eq_true] at this
              have h3 := this.1
              split at h3
              · simp only [Bool.and_eq_true, key] at h3
                have h4 := h3.1.1.2
                rw [hrj, hc] at h4; simp at h4
              · cases h3
          rw [hnr, hc] at hlj
          have hf : L0.getD j true = false := by
            cases hq : L0.getD j true with
            | false => rfl
            | true => rw [hq] at hlj; simp at hlj
          rw [hnr, hc, getD_both hf]; rfl
        · have hc' : tail.contains j = false := by simpa using hc
          rw [hc']
          cases hq : (R.map (·.i)).contains j
          · rw [hq, hc'] at hlj
            have hf : L0.getD j false = true := by
              cases hq2 : L0.getD j false with
              | true => rfl
              | false => rw [hq2] at hlj; simp at hlj
            rw [hf]; rfl
          · rfl
      simpa [h1, h2] using e3
    rw [hLe, Nat.zero_add]
    exact wpAnyX_tail tail _ _ _ _ hT (ph.last _ us w (fun r hr => by simp; exact ⟨r, hr, rfl⟩) hI)
  | succ n ih =>
    intro S L us w hS hSn hSR hLs hLv hSh hI
    rw [show n + 1 + tail.length = (n + tail.length) + 1 by omega]
    have inR : ∀ s ∈ S, ∃ r ∈ R, r.i = s := fun s hs => by
      obtain ⟨r, hr, e⟩ := List.mem_map.1 (hSR s hs)
      exact ⟨r, hr, e⟩
    have facts : ∀ r ∈ R, ∃ o, ops[r.i]? = some o ∧ o.dst = some r.d ∧ o.guard = none ∧ tail.contains r.i = false ∧ (∀ x ∈ r.deps, Region.waitsFor .any ops r.i x = true) ∧
        (∀ e ∈ o.after, Region.binds .any e = true → e.on < ops.size ∧ tail.contains e.on = false ∧ ((R.map (·.i)).contains e.on = true → e.on < r.i)) ∧ (∀ t ∈ tail, behindB .any ops 8 t r.i = true) := fun r hr => by
      have h1 := List.all_eq_true.1 hR (key r) (List.mem_map_of_mem hr)
      rw [hkey] at h1
      simp only [Bool.and_eq_true, key] at h1
      obtain ⟨h1, h2⟩ := h1
      cases ho : ops[r.i]? with
      | none => rw [ho] at h1; cases h1
      | some o =>
        rw [ho] at h1
        simp only [Bool.and_eq_true, beq_iff_eq, Option.isNone_iff_eq_none, Bool.not_eq_true', List.all_eq_true, Array.all_eq_true', Bool.or_eq_true, decide_eq_true_eq] at h1
        refine ⟨o, rfl, h1.1.1.1.1, h1.1.1.1.2, h1.1.1.2, h1.1.2, fun e he hbd => ?_, List.all_eq_true.1 h2⟩
        rcases h1.2 e he with h | h
        · rw [hbd] at h; cases h
        · exact ⟨h.1.1, h.1.2, fun hc => by
            rcases h.2 with h' | h'
            · rw [hc] at h'; cases h'
            · exact of_decide_eq_true h'⟩
    refine ⟨fun h0 => ?_, fun i hi => ?_⟩
    · exfalso
      obtain ⟨m, hm, hle⟩ := exists_least S (by intro e; subst e; simp at hS)
      obtain ⟨r, hr, rfl⟩ := inR m hm
      obtain ⟨o, ho, -, -, -, -, hafter, -⟩ := facts r hr
      have hlt : r.i < ops.size := (Array.getElem?_eq_some_iff.1 ho).1
      have hrd : r.i ∈ Region.ready .any ops L := by
        rw [mem_ready]
        refine ⟨getD_in (by omega) (by rw [hLv _ hlt]; simp [hm]), o, ho, fun e he hbd => ?_⟩
        obtain ⟨h1, h2, h3⟩ := hafter e he hbd
        rw [hLv _ h1, h2]
        have : S.contains e.on = false := by
          cases hq : S.contains e.on with
          | false => rfl
          | true =>
            exfalso
            have hq' : e.on ∈ S := by simpa using hq
            have := h3 (by simpa using hSR _ hq')
            have := hle _ hq'
            omega
        rw [this]; rfl
      rw [h0] at hrd; cases hrd
    · obtain ⟨hun, oi, hoi, hall⟩ := mem_ready.1 hi
      have hilt : i < ops.size := (Array.getElem?_eq_some_iff.1 hoi).1
      have hi0 := getD_both hun
      rw [hLv i hilt] at hi0
      have hiS : i ∈ S := by
        cases hq : S.contains i with
        | true => simpa using hq
        | false =>
          exfalso
          rw [hq] at hi0
          have hit : i ∈ tail := by simpa using hi0
          obtain ⟨m, hm, _⟩ := exists_least S (by intro e; subst e; simp at hS)
          obtain ⟨r, hr, rfl⟩ := inR m hm
          obtain ⟨o, ho, -, -, -, -, -, hbh⟩ := facts r hr
          have hl := Shut.behind hSh 8 i (hbh i hit) (fun o' ho' e he hbb => hall e (by rw [hoi] at ho'; cases ho'; exact he) hbb)
          rw [hLv _ (Array.getElem?_eq_some_iff.1 ho).1] at hl
          simp [hm] at hl
      obtain ⟨r, hr, rfl⟩ := inR i hiS
      obtain ⟨o, ho, hdst, hgd, hnt, hdeps, hafter, hbh⟩ := facts r hr
      obtain rfl : oi = o := Option.some.inj (hoi.symm.trans ho)
      have hget : ops.toList.getD r.i default = oi := by simp [ho]
      unfold wpOp
      simp only [ho]
      rw [if_pos (by simp [Region.wanted, hgd])]
      refine .inl (upon_monoQ (Q := NoQ) (fun _ _ _ h => h.elim) ?_)
      have hx := ph.exec r hr (fun j => (R.map (·.i)).contains j && !S.contains j) us w (by simp [hiS]) (fun d hd => ?_) hI (fun a' w' => (X.contains r.i = false → Keep w w') ∧ wpAnyX P .any ops (Calm Q) (fun i => X.contains i) (n + tail.length) (L.setIfInBounds r.i true) a' w') ?_
      · rw [hget] at hx; exact hx
      · obtain ⟨oj, hoj, e, he, hbd, hon⟩ := Region.waitsFor_spec (hdeps d hd)
        obtain rfl : oj = oi := Option.some.inj (hoj.symm.trans ho)
        have hl := hall e he hbd
        rw [hon] at hl
        have hd2 := hafter e he hbd
        rw [hon] at hd2
        rw [hLv _ hd2.1] at hl
        have hns : S.contains d = false := by
          cases hq : S.contains d with
          | false => rfl
          | true => rw [hq] at hl; simp at hl
        have hdr : (R.map (·.i)).contains d = true := by
          have := List.all_eq_true.1 (List.all_eq_true.1 ph_deps r hr) d hd
          exact this
        simp only [hns, hdr]; rfl
      · intro v w' hI' hk
        refine ⟨fun hx => by
          rcases hk with h | h
          · rw [h] at hx; cases hx
          · exact h, ?_⟩
        rw [puts_upd us R a0 r v hr hni hnd]
        have hin : ∀ x, x ∈ S.erase r.i ↔ x ≠ r.i ∧ x ∈ S := fun x => hSn.mem_erase_iff
        refine ih (S.erase r.i) _ (upd us r.i v) w' (by rw [List.length_erase_of_mem hiS, hS]; rfl) (hSn.erase _) (fun s hs => hSR s ((hin s).1 hs).2) (by simpa using hLs) ?_ (hSh.set hi) ?_
        · intro j hj
          by_cases e : r.i = j
          · subst e
            have : (S.erase r.i).contains r.i = false := by
              cases hq : (S.erase r.i).contains r.i with
              | false => rfl
              | true => exact absurd rfl ((hin _).1 (by simpa using hq)).1
            rw [this, hnt]; simp [hLs, hj]
          · rw [getD_set_ne false e, hLv j hj]
            have : (S.erase r.i).contains j = S.contains j := by
              rw [Bool.eq_iff_iff]; simp only [List.contains_iff_mem]
              rw [hin]; exact ⟨fun h => h.2, fun h => ⟨fun x => e x.symm, h⟩⟩
            rw [this]
        · have : (fun j => (R.map (·.i)).contains j && !(S.erase r.i).contains j) = updB (fun j => (R.map (·.i)).contains j && !S.contains j) r.i := by
            funext j
            unfold updB
            by_cases e : j = r.i
            · subst e
              have h1 : (S.erase r.i).contains r.i = false := by
                cases hq : (S.erase r.i).contains r.i with
                | false => rfl
                | true => exact absurd rfl ((hin _).1 (by simpa using hq)).1
              have h2 : (R.map (·.i)).contains r.i = true := by simp; exact ⟨r, hr, rfl⟩
              rw [if_pos rfl, h1, h2]; rfl
            · have h1 : (S.erase r.i).contains j = S.contains j := by
                rw [Bool.eq_iff_iff]; simp only [List.contains_iff_mem]
                rw [hin]; exact ⟨fun h => h.2, fun h => ⟨e, h⟩⟩
              rw [if_neg e, h1]
          rw [this]; exact hI'

def preBX (ops : Array Oper) (R : List (Nat × Tmp × List Nat)) (X tail : List Nat) : List (Nat × Nat) → Nat → Array Bool → Bool
  | [], f, listed => decide (f = R.length + tail.length) && floL R tail listed && tailB .any ops X tail tail.length (setAll (R.map (·.1)) listed)
  | _ :: _, 0, _ => false
  | (i, k) :: p, f + 1, listed => !X.contains i && (Region.ready .any ops listed).contains i && Region.free .any ops listed i && (k == 3 || (k == 0 && X.all fun x => behindB .any ops 6 x i)) && preBX ops R X tail p f (listed.setIfInBounds i true)
def invB (ops : Array Oper) (pre : List (Nat × Nat)) (R : List (Nat × Tmp × List Nat)) (X tail : List Nat) : Bool :=
  Region.noSelect ops && decide (R.map (·.1)).Nodup && decide (R.map (·.2.1)).Nodup && floR8 ops R tail && tail.all (fun t => X.contains t) && preBX ops R X tail pre ops.size (Array.replicate ops.size false)
theorem wpAnyX_preI {ops : Array Oper} {Q : Exit → Act → World → Prop} {R : List Flo} {X tail : List Nat} (hsel : Region.noSelect ops = true) (hd : depsIn R = true) (hX : ∀ t ∈ tail, X.contains t = true) (hni : (R.map (·.i)).Nodup) (hnd : (R.map (·.d)).Nodup) (hR : floR8 ops (R.map key) tail = true) :
    ∀ (p : List (Nat × Nat)) (f : Nat) (listed : Array Bool) (a : Act) (w : World), Shut .any ops listed → listed.size = ops.size →
      preBX ops (R.map key) X tail p f listed = true → wpPlan P ops (fun _ a' w' => ∃ I, PhaseI P ops Q R X tail a' w' I) ((row p []).map fun i => ops.toList.getD i default) a w →
      wpAnyX P .any ops (Calm Q) (fun i => X.contains i) f listed a w
  | [], f, listed, a, w, inv, hsz, hB, h => by
    simp only [preBX, Bool.and_eq_true, decide_eq_true_eq] at hB
    obtain ⟨⟨hf, hL⟩, hT⟩ := hB
    have hkey : (R.map key).map (·.1) = R.map (·.i) := by simp [key]
    rw [hkey] at hT
    obtain ⟨I, ph⟩ : ∃ I, PhaseI P ops Q R X tail a w I := h
    obtain ⟨us, hus⟩ := puts_self hni a
    have := wpAnyX_inv ph hd hX hni hnd hR hL hsz hT (R.map (·.i)).length (R.map (·.i)) listed us w rfl hni (fun _ h => h) hsz ?_ inv ?_
    · rw [hus] at this
      rw [hf]; simpa using this
    · intro j hj
      have h1 := List.all_eq_true.1 hL j (by simp; omega)
      rw [hkey] at h1
      cases hq : ((R.map (·.i)).contains j || tail.contains j)
      · rw [hq] at h1; simpa using h1
      · rw [hq] at h1
        have : listed.getD j true = false := by
          cases hq2 : listed.getD j true with
          | false => rfl
          | true => rw [hq2] at h1; simp at h1
        rw [getD_both this]; rfl
    · have : (fun j => (R.map (·.i)).contains j && !(R.map (·.i)).contains j) = fun _ => false := by
        funext j; cases (R.map (·.i)).contains j <;> rfl
      rw [this]; exact ph.init us
  | _ :: _, 0, _, _, _, _, _, hB, _ => by simp [preBX] at hB
  | (i, k) :: p, f + 1, listed, a, w, inv, hsz, hB, h => by
    simp only [preBX, Bool.and_eq_true, Bool.not_eq_true', Bool.or_eq_true, beq_iff_eq] at hB
    obtain ⟨⟨⟨⟨hXi, hr⟩, hf⟩, hk⟩, hB'⟩ := hB
    simp only [row, PT.map, wpPlan] at h
    have hi := get_ready (i := i) (by simpa using hr)
    have hr' : i ∈ Region.ready .any ops listed := by simpa using hr
    rcases hk with rfl | ⟨rfl, hb⟩
    · have takeP : ∀ v, YieldsIf P ops (fun _ => True) (ops.toList.getD i default) v a → wpPlan P ops (fun _ a' w' => ∃ I, PhaseI P ops Q R X tail a' w' I) ((row p []).map fun i => ops.toList.getD i default) (a.put (ops.toList.getD i default).dst v) w →
          wpAnyX P .any ops (Calm Q) (fun i => X.contains i) (f + 1) listed a w := fun v hy hK =>
        wpAnyX_first (G := fun _ _ => True) (fun _ => trivial) hi (Region.noSelect_spec hsel) hXi (fun _ _ _ h => h) (fun h _ => h) (fun _ _ _ _ _ _ => trivial)
          _ listed a w inv (Region.free_spec hi hf) hr' hy
          (wpAnyX_preI hsel hd hX hni hnd hR p f _ _ _ (inv.set hr') (by simpa using hsz) hB' hK)
      by_cases hw : Region.wanted (ops.toList.getD i default) (yielded ops a.tmps) = true
      · simp only [hw, if_true] at h
        obtain ⟨s, hs, he⟩ := firm_of_pureB (R := fun _ _ => True) h.1
        obtain ⟨v, hy, hK⟩ := taken hs he hw h.2
        exact takeP v hy hK
      · simp only [hw] at h
        exact takeP undef (.inr ⟨by simpa using hw, rfl⟩) h
    · have takeK : ∀ v, YieldsIf P ops (Keep w) (ops.toList.getD i default) v a → wpPlan P ops (fun _ a' w' => ∃ I, PhaseI P ops Q R X tail a' w' I) ((row p []).map fun i => ops.toList.getD i default) (a.put (ops.toList.getD i default).dst v) w →
          wpAnyX P .any ops (Calm Q) (fun i => X.contains i) (f + 1) listed a w := fun v hy hK =>
        wpAnyX_first (G := Keep) Keep.refl hi (Region.noSelect_spec hsel) hXi (fun _ _ _ h => h) yieldsIf_keep
          (fun j l2 inv2 hu hj hX => hX (by
            cases hc : X.contains j with
            | false => rfl
            | true =>
              exfalso
              have hbj := List.all_eq_true.1 hb j (by simpa using hc)
              obtain ⟨_, oj, hoj, hall⟩ := mem_ready.1 hj
              have := Shut.behind inv2 6 j hbj (fun o' ho' e he hbb => hall e (by rw [hoj] at ho'; cases ho'; exact he) hbb)
              rw [hu] at this; cases this))
          _ listed a w inv (Region.free_spec hi hf) hr' hy
          (wpAnyX_preI hsel hd hX hni hnd hR p f _ _ _ (inv.set hr') (by simpa using hsz) hB' hK)
      by_cases hw : Region.wanted (ops.toList.getD i default) (yielded ops a.tmps) = true
      · simp only [hw, if_true] at h
        obtain ⟨s, hs, he⟩ := firm_of_firmB h.1
        obtain ⟨v, hy, hK⟩ := taken hs he hw h.2
        exact takeK v hy hK
      · simp only [hw] at h
        exact takeK undef (.inr ⟨by simpa using hw, rfl⟩) h
/-- **A region in which some operations may come in any order, by an invariant.** -/
theorem wp_region_inv {Q : Exit → Act → World → Prop} {id : Nat} {a : Act} {w : World} {l : List Oper} (pre : List (Nat × Nat)) (R : List Flo) (ks : List (Nat × Tmp × List Nat)) (X tail : List Nat) (hm : P.follows .mixedOrders = true)
    (hB : invB l.toArray pre ks X tail = true) (hk : R.map key = ks) (hd : depsIn R = true)
    (h : wpPlan P l.toArray (fun _ a' w' => ∃ I, PhaseI P l.toArray Q R X tail a' w' I) ((row pre []).map fun i => l.getD i default) a w.drew) : (Code.region id l.toArray true).wp P Q a w := by
  subst hk
  simp only [invB, Bool.and_eq_true, decide_eq_true_eq] at hB
  obtain ⟨⟨⟨⟨⟨hsel, hni⟩, hnd⟩, hR⟩, hX⟩, hpre⟩ := hB
  have e1 : (R.map key).map (·.1) = R.map (·.i) := by simp [key]
  have e2 : (R.map key).map (·.2.1) = R.map (·.d) := by simp [key]
  rw [e1] at hni
  rw [e2] at hnd
  have inv0 : Shut .any l.toArray (Array.replicate l.toArray.size false) := ⟨by simp, fun j oj _ hl => (by rw [getD_replicate_false] at hl; cases hl)⟩
  exact wp_region_any hm (wpAny_of_X Calm.imp _ _ _ _ (wpAnyX_preI hsel hd (List.all_eq_true.1 hX) hni hnd hR pre _ _ a w.drew inv0 (by simp) hpre h))
theorem phaseI_done {ops : Array Oper} {Q : Exit → Act → World → Prop} {R : List Flo} {X tail : List Nat} {a : Act} {w : World} (I : Inv) (h : PhaseI P ops Q R X tail a w I) : wpList P ops (Calm (fun _ a' w' => ∃ I, PhaseI P ops Q R X tail a' w' I)) [] a w := ⟨I, h⟩
end Go.Rg
