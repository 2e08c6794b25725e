/- LibG; LibY; HdrW13; HdrT1. -/
import Derived.Test.YthjbmggpleliaaaGreatDoorMhb2
import Derived.Test.YthjbmggpleliaaaGreatDoorMhbLibX
import Derived.Test.YthjbmggpleliaaaGreatDoorMhb4
import Derived.Test.YthjbmggpleliaaaGreatDoorMhb13
import Derived.Test.YthjbmggpleliaaaGreatDoorMhbHdrP
import Derived.Test.YthjbmggpleliaaaGreatDoorMhbVarW
import Derived.Test.YthjbmggpleliaaaGreatDoorMhb16
import Derived.Test.YthjbmggpleliaaaGreatDoorMhb17
section
namespace Go.Rg
open Go Go.RowKit Go.Rw
variable {P : Program}
abbrev Inv := (Nat → Bool) → (Nat → Value) → World → Prop
def updB (L : Nat → Bool) (i : Nat) (j : Nat) : Bool := if j = i then true else L j
structure PhaseI (P : Program) (ops : Array Oper) (Q : Exit → Act → World → Prop) (R : List Flo) (X : List Nat) (tail : List Nat) (a0 : Act) (w0 : World) (I : Inv) : Prop where
 init : ∀ us, I (fun _ => false) us w0
 exec : ∀ r ∈ R, ∀ L us w, L r.i = false → (∀ d ∈ r.deps, L d = true) → I L us w → ∀ K : Act → World → Prop,
  (∀ v w', I (updB L r.i) (upd us r.i v) w' → (X.contains r.i = true ∨ Keep w w') → K ((puts us R a0).put (some r.d) v) w') →
  (ops.toList.getD r.i default).wp P (puts us R a0) w K NoQ
 last : ∀ L us w, (∀ r ∈ R, L r.i = true) → I L us w → wpList P ops (Calm Q) (tail.map fun i => ops.toList.getD i default) (puts us R a0) w
def depsIn (R : List Flo) : Bool := R.all fun r => r.deps.all fun d => (R.map (·.i)).contains d
def floR8 (ops : Array Oper) (R : List (Nat × Tmp × List Nat)) (tail : List Nat) : Bool :=
 R.all fun r => (match ops[r.1]? with
  | some o => o.dst == some r.2.1 && o.guard.isNone && !tail.contains r.1 && r.2.2.all (fun x => Region.waitsFor .any ops r.1 x) && o.after.all fun e => !Region.binds .any e || (decide (e.on < ops.size) && !tail.contains e.on && (!(R.map (·.1)).contains e.on || decide (e.on < r.1)))
  | none => false) && tail.all fun t => behindB .any ops 8 t r.1
theorem wpAnyX_inv {ops : Array Oper} {Q : Exit → Act → World → Prop} {R : List Flo} {X tail : List Nat} {a0 : Act} {w0 : World} {L0 : Array Bool} {I : Inv} (ph : PhaseI P ops Q R X tail a0 w0 I) (ph_deps : depsIn R = true) (_ : ∀ t ∈ tail, X.contains t = true)
  (hni : (R.map (·.i)).Nodup) (hnd : (R.map (·.d)).Nodup) (hR : floR8 ops (R.map key) tail = true) (hL : floL (R.map key) tail L0 = true) (hsz : L0.size = ops.size)
  (hT : tailB .any ops X tail tail.length (setAll (R.map (·.i)) L0) = true) :
  ∀ (n : Nat) (S : List Nat) (L : Array Bool) (us : Nat → Value) (w : World), S.length = n → S.Nodup → (∀ s ∈ S, s ∈ R.map (·.i)) → L.size = ops.size →
   (∀ j, j < ops.size → L.getD j false = (!(S.contains j || tail.contains j))) → Shut .any ops L →
   I (fun j => (R.map (·.i)).contains j && !S.contains j) us w →
   wpAnyX P .any ops (Calm Q) (fun i => X.contains i) (n + tail.length) L (puts us R a0) w := by
 have hkey : (R.map key).map (·.1) = R.map (·.i) := by simp [key]
 intro n
 induction n with
 | zero =>
  intro S L us w hS _ _ hLs hLv _ hI
  obtain rfl : S = [] := List.eq_nil_of_length_eq_zero hS
  have hLe : L = setAll (R.map (·.i)) L0 := by
   apply Array.ext (by rw [setAll_size, hLs, hsz])
   intro j h1 h2
   have e1 := hLv j (by omega)
   have e2 := setAll_getD (R.map (·.i)) L0 j (by omega)
   have hlj := List.all_eq_true.1 hL j (by simp; omega)
   rw [hkey] at hlj
   have e3 : L.getD j false = (setAll (R.map (·.i)) L0).getD j false := by
    rw [e1, e2]
    by_cases hc : tail.contains j = true
    ·have hnr : (R.map (·.i)).contains j = false := by
      cases hq : (R.map (·.i)).contains j with
      | false => rfl
      | true =>
       exfalso
       obtain ⟨r, hr, hrj⟩ := List.mem_map.1 (by simpa using hq : j ∈ R.map (·.i))
       have := List.all_eq_true.1 hR (key r) (List.mem_map_of_mem hr)
       simp only [Bool.and_eq_true] at this
       have h3 := this.1
       split at h3
       ·simp only [Bool.and_eq_true, key] at h3
        have h4 := h3.1.1.2
        rw [hrj, hc] at h4; simp at h4
       ·cases h3
     rw [hnr, hc] at hlj
     have hf : L0.getD j true = false := by
      cases hq : L0.getD j true with
      | false => rfl
      | true => rw [hq] at hlj; simp at hlj
     rw [hnr, hc, getD_both hf]; rfl
    ·have hc' : tail.contains j = false := by simpa using hc
     rw [hc']
     cases hq : (R.map (·.i)).contains j
     ·rw [hq, hc'] at hlj
      have hf : L0.getD j false = true := by
       cases hq2 : L0.getD j false with
       | true => rfl
       | false => rw [hq2] at hlj; simp at hlj
      rw [hf]; rfl
     ·rfl
   simpa [h1, h2] using e3
  rw [hLe, Nat.zero_add]
  exact wpAnyX_tail tail _ _ _ _ hT (ph.last _ us w (fun r hr => by simp; exact ⟨r, hr, rfl⟩) hI)
 | succ n ih =>
  intro S L us w hS hSn hSR hLs hLv hSh hI
  rw [show n + 1 + tail.length = (n + tail.length) + 1 by omega]
  have inR : ∀ s ∈ S, ∃ r ∈ R, r.i = s := fun s hs => by
   obtain ⟨r, hr, e⟩ := List.mem_map.1 (hSR s hs)
   exact ⟨r, hr, e⟩
  have facts : ∀ r ∈ R, ∃ o, ops[r.i]? = some o ∧ o.dst = some r.d ∧ o.guard = none ∧ tail.contains r.i = false ∧ (∀ x ∈ r.deps, Region.waitsFor .any ops r.i x = true) ∧
    (∀ e ∈ o.after, Region.binds .any e = true → e.on < ops.size ∧ tail.contains e.on = false ∧ ((R.map (·.i)).contains e.on = true → e.on < r.i)) ∧ (∀ t ∈ tail, behindB .any ops 8 t r.i = true) := fun r hr => by
   have h1 := List.all_eq_true.1 hR (key r) (List.mem_map_of_mem hr)
   rw [hkey] at h1
   simp only [Bool.and_eq_true, key] at h1
   obtain ⟨h1, h2⟩ := h1
   cases ho : ops[r.i]? with
   | none => rw [ho] at h1; cases h1
   | some o =>
    rw [ho] at h1
    simp only [Bool.and_eq_true, beq_iff_eq, Option.isNone_iff_eq_none, Bool.not_eq_true', List.all_eq_true, Array.all_eq_true', Bool.or_eq_true, decide_eq_true_eq] at h1
    refine ⟨o, rfl, h1.1.1.1.1, h1.1.1.1.2, h1.1.1.2, h1.1.2, fun e he hbd => ?_, List.all_eq_true.1 h2⟩
    rcases h1.2 e he with h | h
    ·rw [hbd] at h; cases h
    ·exact ⟨h.1.1, h.1.2, fun hc => by
      rcases h.2 with h' | h'
      ·rw [hc] at h'; cases h'
      ·exact of_decide_eq_true h'⟩
  refine ⟨fun h0 => ?_, fun i hi => ?_⟩
  ·exfalso
   obtain ⟨m, hm, hle⟩ := exists_least S (by intro e; subst e; simp at hS)
   obtain ⟨r, hr, rfl⟩ := inR m hm
   obtain ⟨o, ho, -, -, -, -, hafter, -⟩ := facts r hr
   have hlt : r.i < ops.size := (Array.getElem?_eq_some_iff.1 ho).1
   have hrd : r.i ∈ Region.ready .any ops L := by
    rw [mem_ready]
    refine ⟨getD_in (by omega) (by rw [hLv _ hlt]; simp [hm]), o, ho, fun e he hbd => ?_⟩
    obtain ⟨h1, h2, h3⟩ := hafter e he hbd
    rw [hLv _ h1, h2]
    have : S.contains e.on = false := by
     cases hq : S.contains e.on with
     | false => rfl
     | true =>
      exfalso
      have hq' : e.on ∈ S := by simpa using hq
      have := h3 (by simpa using hSR _ hq')
      have := hle _ hq'
      omega
    rw [this]; rfl
   rw [h0] at hrd; cases hrd
  ·obtain ⟨hun, oi, hoi, hall⟩ := mem_ready.1 hi
   have hilt : i < ops.size := (Array.getElem?_eq_some_iff.1 hoi).1
   have hi0 := getD_both hun
   rw [hLv i hilt] at hi0
   have hiS : i ∈ S := by
    cases hq : S.contains i with
    | true => simpa using hq
    | false =>
     exfalso
     rw [hq] at hi0
     have hit : i ∈ tail := by simpa using hi0
     obtain ⟨m, hm, _⟩ := exists_least S (by intro e; subst e; simp at hS)
     obtain ⟨r, hr, rfl⟩ := inR m hm
     obtain ⟨o, ho, -, -, -, -, -, hbh⟩ := facts r hr
     have hl := Shut.behind hSh 8 i (hbh i hit) (fun o' ho' e he hbb => hall e (by rw [hoi] at ho'; cases ho'; exact he) hbb)
     rw [hLv _ (Array.getElem?_eq_some_iff.1 ho).1] at hl
     simp [hm] at hl
   obtain ⟨r, hr, rfl⟩ := inR i hiS
   obtain ⟨o, ho, hdst, hgd, hnt, hdeps, hafter, hbh⟩ := facts r hr
   obtain rfl : oi = o := Option.some.inj (hoi.symm.trans ho)
   have hget : ops.toList.getD r.i default = oi := by simp [ho]
   unfold wpOp
   simp only [ho]
   rw [if_pos (by simp [Region.wanted, hgd])]
   refine .inl (upon_monoQ (Q := NoQ) (fun _ _ _ h => h.elim) ?_)
   have hx := ph.exec r hr (fun j => (R.map (·.i)).contains j && !S.contains j) us w (by simp [hiS]) (fun d hd => ?_) hI (fun a' w' => (X.contains r.i = false → Keep w w') ∧ wpAnyX P .any ops (Calm Q) (fun i => X.contains i) (n + tail.length) (L.setIfInBounds r.i true) a' w') ?_
   ·rw [hget] at hx; exact hx
   ·obtain ⟨oj, hoj, e, he, hbd, hon⟩ := Region.waitsFor_spec (hdeps d hd)
    obtain rfl : oj = oi := Option.some.inj (hoj.symm.trans ho)
    have hl := hall e he hbd
    rw [hon] at hl
    have hd2 := hafter e he hbd
    rw [hon] at hd2
    rw [hLv _ hd2.1] at hl
    have hns : S.contains d = false := by
     cases hq : S.contains d with
     | false => rfl
     | true => rw [hq] at hl; simp at hl
    have hdr : (R.map (·.i)).contains d = true := by
     have := List.all_eq_true.1 (List.all_eq_true.1 ph_deps r hr) d hd
     exact this
    simp only [hns, hdr]; rfl
   ·intro v w' hI' hk
    refine ⟨fun hx => by
     rcases hk with h | h
     ·rw [h] at hx; cases hx
     ·exact h, ?_⟩
    rw [puts_upd us R a0 r v hr hni hnd]
    have hin : ∀ x, x ∈ S.erase r.i ↔ x ≠ r.i ∧ x ∈ S := fun x => hSn.mem_erase_iff
    refine ih (S.erase r.i) _ (upd us r.i v) w' (by rw [List.length_erase_of_mem hiS, hS]; rfl) (hSn.erase _) (fun s hs => hSR s ((hin s).1 hs).2) (by simpa using hLs) ?_ (hSh.set hi) ?_
    ·intro j hj
     by_cases e : r.i = j
     ·subst e
      have : (S.erase r.i).contains r.i = false := by
       cases hq : (S.erase r.i).contains r.i with
       | false => rfl
       | true => exact absurd rfl ((hin _).1 (by simpa using hq)).1
      rw [this, hnt]; simp [hLs, hj]
     ·rw [getD_set_ne false e, hLv j hj]
      have : (S.erase r.i).contains j = S.contains j := by
       rw [Bool.eq_iff_iff]; simp only [List.contains_iff_mem]
       rw [hin]; exact ⟨fun h => h.2, fun h => ⟨fun x => e x.symm, h⟩⟩
      rw [this]
    ·have : (fun j => (R.map (·.i)).contains j && !(S.erase r.i).contains j) = updB (fun j => (R.map (·.i)).contains j && !S.contains j) r.i := by
      funext j
      unfold updB
      by_cases e : j = r.i
      ·subst e
       have h1 : (S.erase r.i).contains r.i = false := by
        cases hq : (S.erase r.i).contains r.i with
        | false => rfl
        | true => exact absurd rfl ((hin _).1 (by simpa using hq)).1
       have h2 : (R.map (·.i)).contains r.i = true := by simp; exact ⟨r, hr, rfl⟩
       rw [if_pos rfl, h1, h2]; rfl
      ·have h1 : (S.erase r.i).contains j = S.contains j := by
        rw [Bool.eq_iff_iff]; simp only [List.contains_iff_mem]
        rw [hin]; exact ⟨fun h => h.2, fun h => ⟨e, h⟩⟩
       rw [if_neg e, h1]
     rw [this]; exact hI'
def preBX (ops : Array Oper) (R : List (Nat × Tmp × List Nat)) (X tail : List Nat) : List (Nat × Nat) → Nat → Array Bool → Bool
 | [], f, listed => decide (f = R.length + tail.length) && floL R tail listed && tailB .any ops X tail tail.length (setAll (R.map (·.1)) listed)
 | _ :: _, 0, _ => false
 | (i, k) :: p, f + 1, listed => !X.contains i && (Region.ready .any ops listed).contains i && Region.free .any ops listed i && (k == 3 || (k == 0 && X.all fun x => behindB .any ops 6 x i)) && preBX ops R X tail p f (listed.setIfInBounds i true)
def invB (ops : Array Oper) (pre : List (Nat × Nat)) (R : List (Nat × Tmp × List Nat)) (X tail : List Nat) : Bool :=
 Region.noSelect ops && decide (R.map (·.1)).Nodup && decide (R.map (·.2.1)).Nodup && floR8 ops R tail && tail.all (fun t => X.contains t) && preBX ops R X tail pre ops.size (Array.replicate ops.size false)
theorem wpAnyX_preI {ops : Array Oper} {Q : Exit → Act → World → Prop} {R : List Flo} {X tail : List Nat} (hsel : Region.noSelect ops = true) (hd : depsIn R = true) (hX : ∀ t ∈ tail, X.contains t = true) (hni : (R.map (·.i)).Nodup) (hnd : (R.map (·.d)).Nodup) (hR : floR8 ops (R.map key) tail = true) :
  ∀ (p : List (Nat × Nat)) (f : Nat) (listed : Array Bool) (a : Act) (w : World), Shut .any ops listed → listed.size = ops.size →
   preBX ops (R.map key) X tail p f listed = true → wpPlan P ops (fun _ a' w' => ∃ I, PhaseI P ops Q R X tail a' w' I) ((row p []).map fun i => ops.toList.getD i default) a w →
   wpAnyX P .any ops (Calm Q) (fun i => X.contains i) f listed a w
 | [], f, listed, a, w, inv, hsz, hB, h => by
  simp only [preBX, Bool.and_eq_true, decide_eq_true_eq] at hB
  obtain ⟨⟨hf, hL⟩, hT⟩ := hB
  have hkey : (R.map key).map (·.1) = R.map (·.i) := by simp [key]
  rw [hkey] at hT
  obtain ⟨I, ph⟩ : ∃ I, PhaseI P ops Q R X tail a w I := h
  obtain ⟨us, hus⟩ := puts_self hni a
  have := wpAnyX_inv ph hd hX hni hnd hR hL hsz hT (R.map (·.i)).length (R.map (·.i)) listed us w rfl hni (fun _ h => h) hsz ?_ inv ?_
  ·rw [hus] at this
   rw [hf]; simpa using this
  ·intro j hj
   have h1 := List.all_eq_true.1 hL j (by simp; omega)
   rw [hkey] at h1
   cases hq : ((R.map (·.i)).contains j || tail.contains j)
   ·rw [hq] at h1; simpa using h1
   ·rw [hq] at h1
    have : listed.getD j true = false := by
     cases hq2 : listed.getD j true with
     | false => rfl
     | true => rw [hq2] at h1; simp at h1
    rw [getD_both this]; rfl
  ·have : (fun j => (R.map (·.i)).contains j && !(R.map (·.i)).contains j) = fun _ => false := by
    funext j; cases (R.map (·.i)).contains j <;> rfl
   rw [this]; exact ph.init us
 | _ :: _, 0, _, _, _, _, _, hB, _ => by simp [preBX] at hB
 | (i, k) :: p, f + 1, listed, a, w, inv, hsz, hB, h => by
  simp only [preBX, Bool.and_eq_true, Bool.not_eq_true', Bool.or_eq_true, beq_iff_eq] at hB
  obtain ⟨⟨⟨⟨hXi, hr⟩, hf⟩, hk⟩, hB'⟩ := hB
  simp only [row, PT.map, wpPlan] at h
  have hi := get_ready (i := i) (by simpa using hr)
  have hr' : i ∈ Region.ready .any ops listed := by simpa using hr
  rcases hk with rfl | ⟨rfl, hb⟩
  ·have takeP : ∀ v, YieldsIf P ops (fun _ => True) (ops.toList.getD i default) v a → wpPlan P ops (fun _ a' w' => ∃ I, PhaseI P ops Q R X tail a' w' I) ((row p []).map fun i => ops.toList.getD i default) (a.put (ops.toList.getD i default).dst v) w →
     wpAnyX P .any ops (Calm Q) (fun i => X.contains i) (f + 1) listed a w := fun v hy hK =>
    wpAnyX_first (G := fun _ _ => True) (fun _ => trivial) hi (Region.noSelect_spec hsel) hXi (fun _ _ _ h => h) (fun h _ => h) (fun _ _ _ _ _ _ => trivial)
     _ listed a w inv (Region.free_spec hi hf) hr' hy
     (wpAnyX_preI hsel hd hX hni hnd hR p f _ _ _ (inv.set hr') (by simpa using hsz) hB' hK)
   by_cases hw : Region.wanted (ops.toList.getD i default) (yielded ops a.tmps) = true
   ·simp only [hw, if_true] at h
    obtain ⟨s, hs, he⟩ := firm_of_pureB (R := fun _ _ => True) h.1
    obtain ⟨v, hy, hK⟩ := taken hs he hw h.2
    exact takeP v hy hK
   ·simp only [hw] at h
    exact takeP undef (.inr ⟨by simpa using hw, rfl⟩) h
  ·have takeK : ∀ v, YieldsIf P ops (Keep w) (ops.toList.getD i default) v a → wpPlan P ops (fun _ a' w' => ∃ I, PhaseI P ops Q R X tail a' w' I) ((row p []).map fun i => ops.toList.getD i default) (a.put (ops.toList.getD i default).dst v) w →
     wpAnyX P .any ops (Calm Q) (fun i => X.contains i) (f + 1) listed a w := fun v hy hK =>
    wpAnyX_first (G := Keep) Keep.refl hi (Region.noSelect_spec hsel) hXi (fun _ _ _ h => h) yieldsIf_keep
     (fun j l2 inv2 hu hj hX => hX (by
      cases hc : X.contains j with
      | false => rfl
      | true =>
       exfalso
       have hbj := List.all_eq_true.1 hb j (by simpa using hc)
       obtain ⟨_, oj, hoj, hall⟩ := mem_ready.1 hj
       have := Shut.behind inv2 6 j hbj (fun o' ho' e he hbb => hall e (by rw [hoj] at ho'; cases ho'; exact he) hbb)
       rw [hu] at this; cases this))
     _ listed a w inv (Region.free_spec hi hf) hr' hy
     (wpAnyX_preI hsel hd hX hni hnd hR p f _ _ _ (inv.set hr') (by simpa using hsz) hB' hK)
   by_cases hw : Region.wanted (ops.toList.getD i default) (yielded ops a.tmps) = true
   ·simp only [hw, if_true] at h
    obtain ⟨s, hs, he⟩ := firm_of_firmB h.1
    obtain ⟨v, hy, hK⟩ := taken hs he hw h.2
    exact takeK v hy hK
   ·simp only [hw] at h
    exact takeK undef (.inr ⟨by simpa using hw, rfl⟩) h
theorem wp_region_inv {Q : Exit → Act → World → Prop} {id : Nat} {a : Act} {w : World} {l : List Oper} (pre : List (Nat × Nat)) (R : List Flo) (ks : List (Nat × Tmp × List Nat)) (X tail : List Nat) (hm : P.follows .mixedOrders = true)
  (hB : invB l.toArray pre ks X tail = true) (hk : R.map key = ks) (hd : depsIn R = true)
  (h : wpPlan P l.toArray (fun _ a' w' => ∃ I, PhaseI P l.toArray Q R X tail a' w' I) ((row pre []).map fun i => l.getD i default) a w.drew) : (Code.region id l.toArray true).wp P Q a w := by
 subst hk
 simp only [invB, Bool.and_eq_true, decide_eq_true_eq] at hB
 obtain ⟨⟨⟨⟨⟨hsel, hni⟩, hnd⟩, hR⟩, hX⟩, hpre⟩ := hB
 have e1 : (R.map key).map (·.1) = R.map (·.i) := by simp [key]
 have e2 : (R.map key).map (·.2.1) = R.map (·.d) := by simp [key]
 rw [e1] at hni
 rw [e2] at hnd
 have inv0 : Shut .any l.toArray (Array.replicate l.toArray.size false) := ⟨by simp, fun j oj _ hl => (by rw [getD_replicate_false] at hl; cases hl)⟩
 exact wp_region_any hm (wpAny_of_X Calm.imp _ _ _ _ (wpAnyX_preI hsel hd (List.all_eq_true.1 hX) hni hnd hR pre _ _ a w.drew inv0 (by simp) hpre h))
end Go.Rg

end
section
namespace Go.Rg
open Go Go.RowKit Go.Rw
theorem exec_app {P : Program} {o : Oper} {a : Act} {w : World} {K : Act → World → Prop} {t e : TypeId} {i : TypeInfo} (s x : Operand) (ho : o.op = .call { callee := .builtin .append, args := #[s, x], argTypes := #[t, t] })
  (ht : P.underlying t = some (.slice e)) (hi : P.info? e = some i) (hz : i.zero = some (.int .u8 0)) (hsz : i.size = 1) (hby : i.bytes = 1) {B : Nat} (hB : B ≤ w.heap.size) {v0 v : Value} {l0 l : List UInt8} (h0 : a.eval s = v0) (hown : w.ownsRow B e 1 v0 l0.length (l0.map bv)) (hx : a.eval x = v) (hs : Sl w v l) (hl : l0.length + l.length ≤ 2000000)
  (h : ∀ v' w', w'.ownsRow B e 1 v' (l0 ++ l).length ((l0 ++ l).map bv) → w.grownBy w' v0.ownBlock → K (a.put o.dst v') w') : o.wp P a w K NoQ := by
 obtain ⟨ao, cap, rfl, hc, hnn, hp⟩ := hs
 cases ao with
 | none =>
  obtain rfl := hnn rfl
  obtain rfl : l = [] := List.eq_nil_of_length_eq_zero (by omega)
  have hrun := run_append_owned_none (P := P) (w := w) B t o.type e i 1 ht hi v0 l0.length (l0.map bv) hown
  refine exec_value (v := v0) (w' := w) ?_ (h _ _ (by simpa using hown) ⟨rfl, rfl, rfl, Nat.le_refl _, fun _ _ _ => rfl⟩)
  have hx' : a.eval x = .slice none 0 0 := hx
  simp [execOp, ho, resolve, invoke, builtin, h0, hx', hrun, Result.andThen]
 | some ad =>
  refine wp_append_own w s x t ho B e i (.int .u8 0) 1 1 ht hi hz hsz hby rfl (by decide) v0 l0.length (l0.map bv) h0 hown ad l.length cap (l.map bv) hx (by simp) ?_ (map_bv_one _) (by unfold maxLen; omega) (by omega) hB ?_
  ·intro j u hj
   have hjl : j < l.length := by have := (List.getElem?_eq_some_iff.1 hj).1; simpa using this
   obtain ⟨b, off, e, hcell⟩ := hp (by omega)
   cases e
   rw [Addr.add_lit, hcell j hjl, ← hj]
   simp [nth, bv, n8, hjl]
  ·intro v' w' h1 h2 _
   refine h v' w' ?_ h2
   rw [List.length_append, List.map_append]
   exact h1
theorem row_below {B b : Nat} {w w' : World} {c : Array Value} (h : Below B w w') (hr : row? w b = some c) (hb : b < B) : row? w' b = some c := by
 have := h.block b hb
 unfold row? at hr ⊢
 rw [this]; exact hr
theorem lit_sl (w : World) (c : UInt8) (t : TypeId) : Sl (w.alloc (.cells #[.int .u8 (n8 c : Nat)] t)) (.slice (some ⟨w.heap.size, 0, none⟩) 1 1) [c] := by
 refine ⟨_, 1, rfl, Nat.le_refl _, fun h => (by cases h), fun _ => ⟨w.heap.size, 0, rfl, fun k hk => ?_⟩⟩
 rw [row?_cell (row?_alloc_at _ _ _ _ rfl)]
 match k, hk with
 | 0, _ => rfl
theorem phase_app2 {P : Program} {ops : Array Oper} {Q : Exit → Act → World → Prop} {tail : List Nat} {a0 : Act} {w0 : World} (ib i1 id i2 : Nat) (db d1 dd d2 : Tmp) (J1 J2 J3 J4 : Value → World → Prop)
  (hne : ib ≠ i1 ∧ ib ≠ id ∧ ib ≠ i2 ∧ i1 ≠ id ∧ i1 ≠ i2 ∧ id ≠ i2) (N : Nat) (hN : N ≤ w0.heap.size) (v0 u : Value) (l0 m : List UInt8) (c : UInt8) {t e : TypeId} {i : TypeInfo} (s1 x1 s2 x2 : Operand)
  (ht : P.underlying t = some (.slice e)) (hi : P.info? e = some i) (hz : i.zero = some (.int .u8 0)) (hsz : i.size = 1) (hby : i.bytes = 1)
  (own : w0.ownsRow N e 1 v0 l0.length (l0.map bv)) (src : ∀ w', Below N w0 w' → Sl w' u m) (hl : l0.length + m.length ≤ 1000000)
  (o1 : (ops.toList.getD i1 default).op = .call { callee := .builtin .append, args := #[s1, x1], argTypes := #[t, t] }) (t1 : (ops.toList.getD i1 default).dst = some d1)
  (o2 : (ops.toList.getD i2 default).op = .call { callee := .builtin .append, args := #[s2, x2], argTypes := #[t, t] }) (t2 : (ops.toList.getD i2 default).dst = some d2)
  (e1 : ∀ us, (puts us [⟨ib, db, [], false, J1⟩, ⟨i1, d1, [ib], false, J2⟩, ⟨id, dd, [], false, J3⟩, ⟨i2, d2, [i1, id], false, J4⟩] a0).eval s1 = v0)
  (f1 : ∀ us, (puts us [⟨ib, db, [], false, J1⟩, ⟨i1, d1, [ib], false, J2⟩, ⟨id, dd, [], false, J3⟩, ⟨i2, d2, [i1, id], false, J4⟩] a0).eval x1 = us ib)
  (e2 : ∀ us, (puts us [⟨ib, db, [], false, J1⟩, ⟨i1, d1, [ib], false, J2⟩, ⟨id, dd, [], false, J3⟩, ⟨i2, d2, [i1, id], false, J4⟩] a0).eval s2 = us i1)
  (f2 : ∀ us, (puts us [⟨ib, db, [], false, J1⟩, ⟨i1, d1, [ib], false, J2⟩, ⟨id, dd, [], false, J3⟩, ⟨i2, d2, [i1, id], false, J4⟩] a0).eval x2 = us id)
  (hb : ∀ us w (K : Act → World → Prop), K ((puts us [⟨ib, db, [], false, J1⟩, ⟨i1, d1, [ib], false, J2⟩, ⟨id, dd, [], false, J3⟩, ⟨i2, d2, [i1, id], false, J4⟩] a0).put (some db) (.slice (some ⟨w.heap.size, 0, none⟩) 1 1)) (w.alloc (.cells #[.int .u8 (n8 c : Nat)] e)) → (ops.toList.getD ib default).wp P (puts us [⟨ib, db, [], false, J1⟩, ⟨i1, d1, [ib], false, J2⟩, ⟨id, dd, [], false, J3⟩, ⟨i2, d2, [i1, id], false, J4⟩] a0) w K NoQ)
  (hd : ∀ us w (K : Act → World → Prop), Below N w0 w → K ((puts us [⟨ib, db, [], false, J1⟩, ⟨i1, d1, [ib], false, J2⟩, ⟨id, dd, [], false, J3⟩, ⟨i2, d2, [i1, id], false, J4⟩] a0).put (some dd) u) w → (ops.toList.getD id default).wp P (puts us [⟨ib, db, [], false, J1⟩, ⟨i1, d1, [ib], false, J2⟩, ⟨id, dd, [], false, J3⟩, ⟨i2, d2, [i1, id], false, J4⟩] a0) w K NoQ)
  (last : ∀ us w, Below N w0 w → w.ownsRow N e 1 (us i2) (l0 ++ [c] ++ m).length ((l0 ++ [c] ++ m).map bv) → wpList P ops (Calm Q) (tail.map fun i => ops.toList.getD i default) (puts us [⟨ib, db, [], false, J1⟩, ⟨i1, d1, [ib], false, J2⟩, ⟨id, dd, [], false, J3⟩, ⟨i2, d2, [i1, id], false, J4⟩] a0) w)
  {X : List Nat} (hX1 : X.contains i1 = true) (hX2 : X.contains i2 = true) :
  ∃ I, PhaseI P ops Q [⟨ib, db, [], false, J1⟩, ⟨i1, d1, [ib], false, J2⟩, ⟨id, dd, [], false, J3⟩, ⟨i2, d2, [i1, id], false, J4⟩] X tail a0 w0 I := by
 obtain ⟨n1, n2, n3, n4, n5, n6⟩ := hne
 refine ⟨fun L us w' => Below N w0 w' ∧ (L ib = true → L i1 = false → Sl w' (us ib) [c]) ∧ (L i1 = false → w'.ownsRow N e 1 v0 l0.length (l0.map bv)) ∧ (L i1 = true → L i2 = false → w'.ownsRow N e 1 (us i1) (l0 ++ [c]).length ((l0 ++ [c]).map bv)) ∧ (L id = true → us id = u) ∧ (L i2 = true → w'.ownsRow N e 1 (us i2) (l0 ++ [c] ++ m).length ((l0 ++ [c] ++ m).map bv)) ∧ (L i2 = true → L i1 = true), ?_, ?_, ?_⟩
 ·intro us
  exact ⟨Below.refl _ _, by simp, fun _ => own, by simp, by simp, by simp, by simp⟩
 ·refine List.forall_mem_cons.2 ⟨?_, List.forall_mem_cons.2 ⟨?_, List.forall_mem_cons.2 ⟨?_, List.forall_mem_cons.2 ⟨?_, fun r hr => (by cases hr)⟩⟩⟩⟩
  ·intro L us w hnot hdep hI K hK
   obtain ⟨hB, k1, k2, k3, k4, k5, k6⟩ := hI
   refine hb us w K (hK _ _ ⟨hB.alloc (Nat.le_trans hN hB.size) _, ?_, ?_, ?_, ?_, ?_, ?_⟩ (.inr (Keep.of_below ((Below.refl _ _).alloc (Nat.le_refl _) _))))
   ·intro _ _; simp only [upd, if_true]; exact lit_sl w c e
   ·intro h; simp only [updB, if_neg n1.symm] at h; exact (k2 h).alloc _
   ·intro h h'; simp only [updB, upd, if_neg n1.symm, if_neg n3.symm] at h h' ⊢; exact (k3 h h').alloc _
   ·intro h; simp only [updB, upd, if_neg n2.symm] at h ⊢; exact k4 h
   ·intro h; simp only [updB, upd, if_neg n3.symm] at h ⊢; exact (k5 h).alloc _
   ·intro h; simp only [updB, if_neg n3.symm, if_neg n1.symm] at h ⊢; exact k6 h
  ·intro L us w hnot hdep hI K hK
   obtain ⟨hB, k1, k2, k3, k4, k5, k6⟩ := hI
   have hLb : L ib = true := hdep ib (by simp)
   have hown := k2 hnot
   have hsz' := Nat.le_trans hN hB.size
   refine exec_app s1 x1 o1 ht hi hz hsz hby hsz' (e1 us) hown (f1 us) (k1 hLb hnot) (by simp; omega) ?_
   intro v' w' h1 h2
   rw [t1]
   have hB' : Below N w w' := (Below.refl _ _).grown h2 hsz' (fun q hq => (hown.lt q hq).1)
   refine hK _ _ ⟨hB.trans hB', ?_, ?_, ?_, ?_, ?_, ?_⟩ (.inl hX1)
   ·intro _ h; simp [updB] at h
   ·intro h; simp [updB] at h
   ·intro _ _; simp only [upd, if_true]; exact h1
   ·intro h; simp only [updB, upd, if_neg n4.symm] at h ⊢; exact k4 h
   ·intro h; simp only [updB, upd, if_neg n5.symm] at h ⊢
    have := k6 h
    rw [hnot] at this; cases this
   ·intro _; simp [updB]
  ·intro L us w hnot hdep hI K hK
   obtain ⟨hB, k1, k2, k3, k4, k5, k6⟩ := hI
   refine hd us w K hB (hK _ _ ⟨hB, ?_, ?_, ?_, ?_, ?_, ?_⟩ (.inr (Keep.refl _)))
   ·intro h h'; simp only [updB, upd, if_neg n2, if_neg n4] at h h' ⊢; exact k1 h h'
   ·intro h; simp only [updB, if_neg n4] at h ⊢; exact k2 h
   ·intro h h'; simp only [updB, upd, if_neg n4, if_neg n6.symm] at h h' ⊢; exact k3 h h'
   ·intro h; simp only [upd, if_true]
   ·intro h; simp only [updB, upd, if_neg n6.symm] at h ⊢; exact k5 h
   ·intro h; simp only [updB, if_neg n6.symm, if_neg n4] at h ⊢; exact k6 h
  ·intro L us w hnot hdep hI K hK
   obtain ⟨hB, k1, k2, k3, k4, k5, k6⟩ := hI
   have hL1 : L i1 = true := hdep i1 (by simp)
   have hLd : L id = true := hdep id (by simp)
   have hown := k3 hL1 hnot
   have hsz' := Nat.le_trans hN hB.size
   refine exec_app s2 x2 o2 ht hi hz hsz hby hsz' (e2 us) hown (f2 us) (by rw [k4 hLd]; exact src _ hB) (by simp; omega) ?_
   intro v' w' h1 h2
   rw [t2]
   have hB' : Below N w w' := (Below.refl _ _).grown h2 hsz' (fun q hq => (hown.lt q hq).1)
   refine hK _ _ ⟨hB.trans hB', ?_, ?_, ?_, ?_, ?_, ?_⟩ (.inl hX2)
   ·intro _ h; simp only [updB, if_neg n5] at h; rw [hL1] at h; cases h
   ·intro h; simp only [updB, if_neg n5] at h; rw [hL1] at h; cases h
   ·intro _ h; simp [updB] at h
   ·intro h; simp only [updB, upd, if_neg n6] at h ⊢; exact k4 h
   ·intro _; simp only [upd, if_true]; exact h1
   ·intro _; simp only [updB, if_neg n5]; exact hL1
 ·intro L us w hall hI
  obtain ⟨hB, k1, k2, k3, k4, k5, k6⟩ := hI
  exact last us w hB (k5 (hall ⟨i2, d2, [i1, id], false, J4⟩ (by simp)))
end Go.Rg

end
section
namespace Hdr
open Go Go.Rw
def longF (kind : Int) (nl : Nat) : UInt8 := 128 ||| 64 ||| UInt8.ofInt ((nl : Int) - 1) ||| UInt8.ofInt (kind % 256 * 16 % 256)
def longTok (kind : Int) (tok : List UInt8) : List UInt8 := if kind = 0 then vin tok.length (vlen tok.length) ++ tok else []
def longB (kind : Int) (ver : Nat) (dst src tok : List UInt8) (num nl rest : Nat) : List UInt8 :=
 [longF kind nl] ++ be ver 4 ++ [UInt8.ofNat dst.length] ++ dst ++ [UInt8.ofNat src.length] ++ src ++ longTok kind tok ++ vin (rest + nl) 2 ++ be num nl
end Hdr
namespace Go.Proofs.YthjbmggpleliaaaGreatDoor
open Go.RowKit Go.Rw Hdr
attribute [local go_sem ↓] ldH stH alH shift_shl8 shift_shr8 shift_shl64 shift_shr64
attribute [local go_sem] rldH rstH ralH setRow_alloc_at setRow_alloc_past setRow_drew
set_option maxRecDepth 100000 in
set_option maxHeartbeats 4000000 in
theorem put_long (kind : Int) (ver : Nat) (dst src tok : List UInt8) (vd vs vt : Value) (num nl rest : Nat) (hm : mayN true kind ver dst.length src.length tok.length false false num nl = true) (hv : ver < 4294967296) (hr1 : (rest : Int) ≤ 16383 - nl) (w : World) (hsd : Sl w vd dst) (hss : Sl w vs src) (hst : Sl w vt tok) :
  Calls Tryz.prog 92 #[.agg (hvA true kind ver vd vs vt false false num nl), .int .i64 (rest : Nat)] w fun e w' => ∃ v, e = .returned (.tuple #[v, .int .i64 0]) ∧ w'.ownsRow w.heap.size 5 1 v (longB kind ver dst src tok num nl rest).length ((longB kind ver dst src tok num nl rest).map bv) ∧ Below w.heap.size w w' := by
 obtain ⟨ad, cd, rfl, -, -, -⟩ := id hsd
 obtain ⟨as_, cs, rfl, -, -, -⟩ := id hss
 obtain ⟨at_, ct, rfl, -, -, -⟩ := id hst
 obtain ⟨i0, hi, hz0, hz1, hz2⟩ := info_parts info8
 have hmay := fun W => may_any true kind ver ad as_ at_ dst.length src.length tok.length cd cs ct false false num nl W
 rw [hm] at hmay
 have hfacts : (1 ≤ nl ∧ nl ≤ 4) ∧ num ≤ 4611686018427387903 ∧ dst.length = 8 ∧ (kind = 0 ∨ (kind = 2 ∧ tok.length = 0)) ∧ src.length ≤ 20 ∧ tok.length ≤ 100 := by
  unfold mayN at hm
  split at hm
  ·cases hm
  ·rw [if_neg (by decide)] at hm
   have := of_decide_eq_true hm
   refine ⟨by omega, by omega, by omega, this.1, this.2.1, this.2.2.1⟩
 obtain ⟨⟨h1, h4⟩, hn, hd8, hkind, hs20, ht100⟩ := hfacts
 obtain ⟨F, hF⟩ : ∃ F, longF kind nl = F := ⟨_, rfl⟩
 obtain ⟨Z, hZ⟩ : ∃ Z, longB kind ver dst src tok num nl rest = Z := ⟨_, rfl⟩
 rw [hZ]
 unfold longB at hZ
 rw [hF] at hZ
 unfold longF at hF
 have g2 : ¬ (16383 - (nl : Int) < (rest : Nat)) := by omega
 have HM := Lib.hid hmay
 have HF := Lib.hid hF
 have HZ := Lib.hid hZ
 have HN := Lib.hid hn
 have HV := Lib.hid hv
 have HSD := Lib.hid hsd
 have HSS := Lib.hid hss
 have HST := Lib.hid hst
 have HK := Lib.hid hkind
 have HL := Lib.hid (And.intro hd8 (And.intro hs20 ht100))
 clear hm hmay hF hZ hn hv hr1 hsd hss hst hkind hd8 hs20 ht100
 unfold hvA at HM ⊢
 go_enter Tryz.func92, Tryz.ntmps92
 go_wp2_with fail
 refine (HM.out _).mono ?_
 rintro e w1 ⟨rfl, hb1⟩
 have r1 : row? w1 w.heap.size = some (hvA true kind ver (.slice ad dst.length cd) (.slice as_ src.length cs) (.slice at_ tok.length ct) false false num nl) := Rg.stable_row hb1 (row?_alloc_at _ _ _ _ rfl)
 have b1 : Below w.heap.size w w1 := ((Below.refl w.heap.size w).alloc (Nat.le_refl _) _).trans (hb1.mono (by simp))
 have c0 : w1.cell? ⟨w.heap.size, 0, none⟩ = some (.bool true) := row?_cell r1 0
 have c9 : w1.cell? ⟨w.heap.size, 9, none⟩ = some (.int .i64 (nl : Nat)) := row?_cell r1 9
 have R1 := Lib.hid r1
 clear r1 hb1 HM
 go_wp2_with fail
 refine Rg.wp_region_plan (Rg.row [(0, 3), (1, 0), (4, 3), (5, 0), (6, 3), (7, 3), (2, 1), (3, 3), (8, 3), (9, 3)] []) [] (by kernel_rfl) (by kernel_rfl) ?_
 simp only [Rg.row, Rg.PT.map, List.map_nil, List.getD_cons_zero, List.getD_cons_succ]
 go_wp2_with (first
  |(with_reducible refine Rg.plan_pure ?_ ?_ ?_); kernel_rfl; kernel_rfl; intro _ _|(with_reducible refine Rg.plan_take ?_ ?_ ?_); kernel_rfl; kernel_rfl; intro _ _|(with_reducible refine Rg.plan_keep ?_ ?_); kernel_rfl; intro K hK|refine hK _ _ (Rg.Keep.refl _) ?_; clear hK|refine hK _ _ (Rg.Keep.of_below (by assumption)) ?_; clear hK|(with_reducible refine Rg.plan_skip ?_ ?_); kernel_rfl|(with_reducible refine Rg.plan_done ?_)|(with_reducible refine Rg.calm_normal ?_))
 refine (flag_any true 128 _).mono ?_
 rintro e w' ⟨rfl, rfl⟩
 rw [if_pos rfl]
 have c1 : w1.cell? ⟨w.heap.size, 1, none⟩ = some (.int .i64 kind) := row?_cell R1.out 1
 have c2 : w1.cell? ⟨w.heap.size, 2, none⟩ = some (.int .u32 (ver : Nat)) := row?_cell R1.out 2
 have hlt1 : w.heap.size < w1.heap.size := row?_lt R1.out
 have hne1 : w.heap.size ≠ w1.heap.size := Nat.ne_of_lt hlt1
 have hvw : IntKind.u64.wrap ((ver : Nat) : Int) = (ver : Nat) := by have := HV.out; simp only [IntKind.wrap_u64]; omega
 go_wp2_with (first
  |(with_reducible refine Rg.plan_pure ?_ ?_ ?_); kernel_rfl; kernel_rfl; intro _ _|(with_reducible refine Rg.plan_take ?_ ?_ ?_); kernel_rfl; kernel_rfl; intro _ _|(with_reducible refine Rg.plan_keep ?_ ?_); kernel_rfl; intro K hK|refine hK _ _ (Rg.Keep.refl _) ?_; clear hK|refine hK _ _ (Rg.Keep.of_below (by assumption)) ?_; clear hK|(with_reducible refine Rg.plan_skip ?_ ?_); kernel_rfl|(with_reducible refine Rg.plan_done ?_)|(with_reducible refine Rg.calm_normal ?_))
 have howA : (w1.alloc (.cells #[.int .u8 (n8 (128 ||| 64 ||| UInt8.ofInt ((nl : Int) - 1) ||| UInt8.ofInt (kind % 256 * 16 % 256)) : Nat)] 5)).drew.ownsRow (w.heap.size + 1) 5 1 (.slice (some ⟨w1.heap.size, 0, none⟩) 1 1) 1 ([128 ||| 64 ||| UInt8.ofInt ((nl : Int) - 1) ||| UInt8.ofInt (kind % 256 * 16 % 256)].map bv) := (World.ownsRow_lit (base := w.heap.size + 1) w1 #[.int .u8 (n8 (128 ||| 64 ||| UInt8.ofInt ((nl : Int) - 1) ||| UInt8.ofInt (kind % 256 * 16 % 256)) : Nat)] 1 (by omega) (by decide) (by simp)).drew
 have bA : Below w.heap.size w (w1.alloc (.cells #[.int .u8 (n8 (128 ||| 64 ||| UInt8.ofInt ((nl : Int) - 1) ||| UInt8.ofInt (kind % 256 * 16 % 256)) : Nat)] 5)).drew := (b1.alloc b1.size _).drew
 have rA : row? (w1.alloc (.cells #[.int .u8 (n8 (128 ||| 64 ||| UInt8.ofInt ((nl : Int) - 1) ||| UInt8.ofInt (kind % 256 * 16 % 256)) : Nat)] 5)).drew w.heap.size = some (hvA true kind ver (.slice ad dst.length cd) (.slice as_ src.length cs) (.slice at_ tok.length ct) false false num nl) := by rw [row?_drew]; exact Rg.stable_row ((Below.refl _ _).alloc (Nat.le_refl _) _) R1.out
 have sA : w.heap.size + 1 ≤ (w1.alloc (.cells #[.int .u8 (n8 (128 ||| 64 ||| UInt8.ofInt ((nl : Int) - 1) ||| UInt8.ofInt (kind % 256 * 16 % 256)) : Nat)] 5)).drew.heap.size := by have := row?_lt rA; omega
 rw [HF.out] at howA bA rA sA ⊢
 generalize (w1.alloc (.cells #[.int .u8 (n8 F : Nat)] 5)).drew = wA at howA bA rA sA ⊢
 have RA := Lib.hid rA
 have HOA := Lib.hid howA
 clear rA howA R1 c0 c1 c2 c9 hlt1 hne1 hvw b1
 refine (number_any [F] ver 4 (by simp) (by have := HV.out; omega) (by decide) _ (w.heap.size + 1) wA sA HOA.out).mono ?_
 rintro e w2 ⟨v2, rfl, own2, b2⟩
 have bW2 : Below w.heap.size w w2 := bA.trans (b2.mono (Nat.le_succ _))
 have r2 : row? w2 w.heap.size = some (hvA true kind ver (.slice ad dst.length cd) (.slice as_ src.length cs) (.slice at_ tok.length ct) false false num nl) := Rg.row_below b2 RA.out (by omega)
 have s2 : w.heap.size + 1 ≤ w2.heap.size := by have := row?_lt r2; omega
 have O2 := Lib.hid own2
 have R2 := Lib.hid r2
 clear own2 r2 RA HOA b2 bA sA
 have c3 : w2.cell? ⟨w.heap.size, 3, none⟩ = some (.slice ad dst.length cd) := row?_cell R2.out 3
 have hmod : ((dst.length : Nat) : Int) % 256 = (dst.length : Nat) := by have := HL.out.1; omega
 go_wp2_with fail
 refine Rg.wp_region_inv [(0, 3), (1, 3), (2, 0), (3, 0), (4, 3), (7, 3)] [⟨5, 70, [], false, fun _ _ => True⟩, ⟨6, 71, [5], false, fun _ _ => True⟩, ⟨8, 73, [], false, fun _ _ => True⟩, ⟨9, 74, [6, 8], false, fun _ _ => True⟩] [(5, 70, []), (6, 71, [5]), (8, 73, []), (9, 74, [6, 8])] [6, 9, 10] [10] (by kernel_rfl) (by kernel_rfl) rfl (by kernel_rfl) ?_
 simp only [Rg.row, Rg.PT.map, List.getD_cons_zero, List.getD_cons_succ]
 go_wp2_with (first
  |(with_reducible refine Rg.plan_pure ?_ ?_ ?_); kernel_rfl; kernel_rfl; intro _ _|(with_reducible refine Rg.plan_take ?_ ?_ ?_); kernel_rfl; kernel_rfl; intro _ _|(with_reducible refine Rg.plan_keep ?_ ?_); kernel_rfl; intro K hK|refine hK _ _ (Rg.Keep.refl _) ?_; clear hK|refine hK _ _ (Rg.Keep.of_below (by assumption)) ?_; clear hK|(with_reducible refine Rg.plan_skip ?_ ?_); kernel_rfl|(with_reducible refine Rg.plan_done ?_)|(with_reducible refine Rg.calm_normal ?_))
 have o2d : w2.drew.ownsRow (w.heap.size + 1) 5 1 v2 ([F] ++ be ver 4).length (([F] ++ be ver 4).map bv) := O2.out.drew
 have hdn : n8 (UInt8.ofNat dst.length) = dst.length := n8_ofNat _ (by have := HL.out.1; omega)
 have hsdB : ∀ w', Below (w.heap.size + 1) w2.drew w' → Sl w' (.slice ad dst.length cd) dst := fun w' h => HSD.out.below (bW2.drew.trans (h.mono (Nat.le_succ _)))
 refine Rg.phase_app2 (w0 := w2.drew) 5 6 8 9 70 71 73 74 (fun _ _ => True) (fun _ _ => True) (fun _ _ => True) (fun _ _ => True) (by decide) (w.heap.size + 1) s2 v2 (.slice ad dst.length cd) ([F] ++ be ver 4) dst (UInt8.ofNat dst.length) (.tmp 65) (.tmp 70) (.tmp 71) (.tmp 73) Tryz.underlying22 hi hz0 hz1 hz2 o2d hsdB (by have := HL.out.1; simp [be_length]; omega) (by kernel_rfl) (by kernel_rfl) (by kernel_rfl) (by kernel_rfl) (fun us => by kernel_rfl) (fun us => by kernel_rfl) (fun us => by kernel_rfl) (fun us => by kernel_rfl) ?_ ?_ ?_ rfl rfl
 ·intro us wx K hK
  rw [hdn] at hK
  exact Rg.exec_value (v := .slice (some ⟨wx.heap.size, 0, none⟩) 1 1) (w' := wx.alloc (.cells #[.int .u8 (dst.length : Nat)] 5)) (by simp [go_sem, execOp, Rg.puts]) hK
 ·intro us wx K hB hK
  have r := Rg.row_below hB ((row?_drew _ _).trans R2.out) (by omega)
  have c : wx.cell? ⟨w.heap.size, 3, none⟩ = some (.slice ad dst.length cd) := row?_cell r 3
  exact Rg.exec_value (v := .slice ad dst.length cd) (w' := wx) (by simp [go_sem, execOp, Rg.puts, c]) hK
 ·intro us w3 hB o3
  have bW3 : Below w.heap.size w w3 := bW2.drew.trans (hB.mono (Nat.le_succ _))
  have r3 : row? w3 w.heap.size = some (hvA true kind ver (.slice ad dst.length cd) (.slice as_ src.length cs) (.slice at_ tok.length ct) false false num nl) := Rg.row_below hB ((row?_drew _ _).trans R2.out) (by omega)
  have s3 : w.heap.size + 1 ≤ w3.heap.size := by have := row?_lt r3; omega
  simp only [Rg.puts, List.map_cons, List.map_nil]
  generalize us 5 = x5
  generalize us 6 = x6
  generalize us 8 = x8
  generalize us 9 = v3 at *
  have R3 := Lib.hid r3
  have O3 := Lib.hid o3
  clear hB r3 o3 hsdB o2d R2 O2 s2 c3 bW2 hmod hdn
  clear us
  have c4 : w3.cell? ⟨w.heap.size, 4, none⟩ = some (.slice as_ src.length cs) := row?_cell R3.out 4
  have hmod : ((src.length : Nat) : Int) % 256 = (src.length : Nat) := by have := HL.out.2.1; omega
  go_wp2_with (first
   |(with_reducible refine Rg.plan_pure ?_ ?_ ?_); kernel_rfl; kernel_rfl; intro _ _|(with_reducible refine Rg.plan_take ?_ ?_ ?_); kernel_rfl; kernel_rfl; intro _ _|(with_reducible refine Rg.plan_keep ?_ ?_); kernel_rfl; intro K hK|refine hK _ _ (Rg.Keep.refl _) ?_; clear hK|refine hK _ _ (Rg.Keep.of_below (by assumption)) ?_; clear hK|(with_reducible refine Rg.plan_skip ?_ ?_); kernel_rfl|(with_reducible refine Rg.plan_done ?_)|(with_reducible refine Rg.calm_normal ?_))
  obtain ⟨L1, hL1⟩ : ∃ L1, [F] ++ be ver 4 ++ [UInt8.ofNat dst.length] ++ dst = L1 := ⟨_, rfl⟩
  have hL1l : L1.length = 14 := by rw [← hL1]; have := HL.out.1; simp [be_length, this]
  have o3 := O3.out
  rw [hL1] at o3
  have HL1 := Lib.hid hL1
  have HL1l := Lib.hid hL1l
  clear O3 hL1 hL1l
  refine Rg.wp_region_inv [(0, 3), (1, 3), (2, 0), (3, 0), (4, 3), (7, 3)] [⟨5, 80, [], false, fun _ _ => True⟩, ⟨6, 81, [5], false, fun _ _ => True⟩, ⟨8, 83, [], false, fun _ _ => True⟩, ⟨9, 84, [6, 8], false, fun _ _ => True⟩] [(5, 80, []), (6, 81, [5]), (8, 83, []), (9, 84, [6, 8])] [6, 9, 10] [10] (by kernel_rfl) (by kernel_rfl) rfl (by kernel_rfl) ?_
  simp only [Rg.row, Rg.PT.map, List.getD_cons_zero, List.getD_cons_succ]
  go_wp2_with (first
   |(with_reducible refine Rg.plan_pure ?_ ?_ ?_); kernel_rfl; kernel_rfl; intro _ _|(with_reducible refine Rg.plan_take ?_ ?_ ?_); kernel_rfl; kernel_rfl; intro _ _|(with_reducible refine Rg.plan_keep ?_ ?_); kernel_rfl; intro K hK|refine hK _ _ (Rg.Keep.refl _) ?_; clear hK|refine hK _ _ (Rg.Keep.of_below (by assumption)) ?_; clear hK|(with_reducible refine Rg.plan_skip ?_ ?_); kernel_rfl|(with_reducible refine Rg.plan_done ?_)|(with_reducible refine Rg.calm_normal ?_))
  have o3d : w3.drew.ownsRow (w.heap.size + 1) 5 1 v3 L1.length (L1.map bv) := o3.drew
  have hsn : n8 (UInt8.ofNat src.length) = src.length := n8_ofNat _ (by have := HL.out.2.1; omega)
  have hssB : ∀ w', Below (w.heap.size + 1) w3.drew w' → Sl w' (.slice as_ src.length cs) src := fun w' h => HSS.out.below (bW3.drew.trans (h.mono (Nat.le_succ _)))
  refine Rg.phase_app2 (w0 := w3.drew) 5 6 8 9 80 81 83 84 (fun _ _ => True) (fun _ _ => True) (fun _ _ => True) (fun _ _ => True) (by decide) (w.heap.size + 1) s3 v3 (.slice as_ src.length cs) L1 src (UInt8.ofNat src.length) (.tmp 75) (.tmp 80) (.tmp 81) (.tmp 83) Tryz.underlying22 hi hz0 hz1 hz2 o3d hssB (by have := HL.out.2.1; have := HL1l.out; omega) (by kernel_rfl) (by kernel_rfl) (by kernel_rfl) (by kernel_rfl) (fun us => by kernel_rfl) (fun us => by kernel_rfl) (fun us => by kernel_rfl) (fun us => by kernel_rfl) ?_ ?_ ?_ rfl rfl
  ·intro us wx K hK
   rw [hsn] at hK
   exact Rg.exec_value (v := .slice (some ⟨wx.heap.size, 0, none⟩) 1 1) (w' := wx.alloc (.cells #[.int .u8 (src.length : Nat)] 5)) (by simp [go_sem, execOp, Rg.puts]) hK
  ·intro us wx K hB hK
   have r := Rg.row_below hB ((row?_drew _ _).trans R3.out) (by omega)
   have c : wx.cell? ⟨w.heap.size, 4, none⟩ = some (.slice as_ src.length cs) := row?_cell r 4
   exact Rg.exec_value (v := .slice as_ src.length cs) (w' := wx) (by simp [go_sem, execOp, Rg.puts, c]) hK
  ·intro us w4 hB o4
   have bW4 : Below w.heap.size w w4 := bW3.drew.trans (hB.mono (Nat.le_succ _))
   have r4 : row? w4 w.heap.size = some (hvA true kind ver (.slice ad dst.length cd) (.slice as_ src.length cs) (.slice at_ tok.length ct) false false num nl) := Rg.row_below hB ((row?_drew _ _).trans R3.out) (by omega)
   have s4 : w.heap.size + 1 ≤ w4.heap.size := by have := row?_lt r4; omega
   simp only [Rg.puts, List.map_cons, List.map_nil]
   generalize us 5 = y5
   generalize us 6 = y6
   generalize us 8 = y8
   generalize us 9 = v4 at *
   obtain ⟨L2, hL2⟩ : ∃ L2, L1 ++ [UInt8.ofNat src.length] ++ src = L2 := ⟨_, rfl⟩
   have hL2l : L2.length ≤ 35 := by rw [← hL2]; have := HL.out.2.1; have := HL1l.out; simp; omega
   rw [hL2] at o4
   have HL2 := Lib.hid hL2
   have HL2l := Lib.hid hL2l
   have R4 := Lib.hid r4
   have O4 := Lib.hid o4
   clear hB r4 o4 hssB o3d o3 R3 s3 c4 bW3 hmod hsn hL2 hL2l
   clear us
   have c41 : w4.cell? ⟨w.heap.size, 1, none⟩ = some (.int .i64 kind) := row?_cell R4.out 1
   have c45 : w4.cell? ⟨w.heap.size, 5, none⟩ = some (.slice at_ tok.length ct) := row?_cell R4.out 5
   have htw : IntKind.u64.wrap ((tok.length : Nat) : Int) = (tok.length : Nat) := by have := HL.out.2.2; simp only [IntKind.wrap_u64]; omega
   have hcase : (kind == 0) = true ∧ longTok kind tok = vin tok.length (vlen tok.length) ++ tok ∨ (kind == 0) = false ∧ longTok kind tok = [] := by
    by_cases hk : kind = 0
    ·exact .inl ⟨by simp [hk], if_pos hk⟩
    ·exact .inr ⟨by simp [hk], if_neg hk⟩
   rcases hcase with ⟨hk0, hlt⟩ | ⟨hk0, hlt⟩
   ·have HLT := Lib.hid hlt
    clear hlt
    go_wp2_with (first
     |(with_reducible refine Rg.plan_pure ?_ ?_ ?_); kernel_rfl; kernel_rfl; intro _ _|(with_reducible refine Rg.plan_take ?_ ?_ ?_); kernel_rfl; kernel_rfl; intro _ _|(with_reducible refine Rg.plan_keep ?_ ?_); kernel_rfl; intro K hK|refine hK _ _ (Rg.Keep.refl _) ?_; clear hK|refine hK _ _ (Rg.Keep.of_below (by assumption)) ?_; clear hK|(with_reducible refine Rg.plan_skip ?_ ?_); kernel_rfl|(with_reducible refine Rg.plan_done ?_)|(with_reducible refine Rg.calm_normal ?_))
    refine Rg.wp_region_plan (Rg.row [(0, 3), (1, 3), (2, 0), (3, 0), (4, 3), (6, 3), (7, 0), (5, 1)] [8, 9]) [8, 9] (by kernel_rfl) (by kernel_rfl) ?_
    simp only [Rg.row, Rg.PT.map, List.map_cons, List.map_nil, List.getD_cons_zero, List.getD_cons_succ]
    go_wp2_with (first
     |(with_reducible refine Rg.plan_pure ?_ ?_ ?_); kernel_rfl; kernel_rfl; intro _ _|(with_reducible refine Rg.plan_take ?_ ?_ ?_); kernel_rfl; kernel_rfl; intro _ _|(with_reducible refine Rg.plan_keep ?_ ?_); kernel_rfl; intro K hK|refine hK _ _ (Rg.Keep.refl _) ?_; clear hK|refine hK _ _ (Rg.Keep.of_below (by assumption)) ?_; clear hK|(with_reducible refine Rg.plan_skip ?_ ?_); kernel_rfl|(with_reducible refine Rg.plan_done ?_)|(with_reducible refine Rg.calm_normal ?_))
    refine (vput_any L2 tok.length (by have := HL2l.out; omega) (by have := HL.out.2.2; omega) v4 w4.drew (Own.sl O4.out.drew)).mono ?_
    rintro e w5 ⟨v5, rfl, o5, b5⟩
    refine hK _ _ (Rg.Keep.of_below b5) ?_
    clear hK c41 c45 htw
    have o5' : w5.ownsRow (w.heap.size + 1) 5 1 v5 (L2 ++ vin tok.length (vlen tok.length)).length ((L2 ++ vin tok.length (vlen tok.length)).map bv) := own_lower o5 s4
    have bW5 : Below w.heap.size w w5 := bW4.drew.trans (b5.mono (by have := s4; simp; omega))
    have r5 : row? w5 w.heap.size = some (hvA true kind ver (.slice ad dst.length cd) (.slice as_ src.length cs) (.slice at_ tok.length ct) false false num nl) := Rg.stable_row b5 ((row?_drew _ _).trans R4.out)
    have s5 : w.heap.size + 1 ≤ w5.heap.size := by have := row?_lt r5; omega
    have hst5 : Sl w5 (.slice at_ tok.length ct) tok := HST.out.below bW5
    have hl5 : (L2 ++ vin tok.length (vlen tok.length)).length + tok.length ≤ 2000000 := by have := HL2l.out; have := HL.out.2.2; have := vlen_le tok.length; simp [vin_length]; omega
    have O5 := Lib.hid o5'
    have R5 := Lib.hid r5
    have S5 := Lib.hid hst5
    clear o5 o5' b5 r5 hst5 O4 R4 bW4 s4
    go_wp2_with (first
     | (at_builtin; refine app_sl rfl _ _ 22 rfl (w.heap.size + 1) 5 i0 Tryz.underlying22 hi hz0 hz1 hz2 v5 (L2 ++ vin tok.length (vlen tok.length)) rfl O5.out _ tok rfl S5.out hl5 s5 ?_)
     |(with_reducible refine Rg.plan_pure ?_ ?_ ?_); kernel_rfl; kernel_rfl; intro _ _|(with_reducible refine Rg.plan_take ?_ ?_ ?_); kernel_rfl; kernel_rfl; intro _ _|(with_reducible refine Rg.plan_keep ?_ ?_); kernel_rfl; intro K hK|refine hK _ _ (Rg.Keep.refl _) ?_; clear hK|refine hK _ _ (Rg.Keep.of_below (by assumption)) ?_; clear hK|(with_reducible refine Rg.plan_skip ?_ ?_); kernel_rfl|(with_reducible refine Rg.plan_done ?_)|(with_reducible refine Rg.calm_normal ?_))
    intro v6 w6 o6 hg6
    have bW6 : Below w.heap.size w w6 := bW5.grown hg6 bW5.size (fun k hk => by have := (O5.out.lt k hk).1; omega)
    have r6 : row? w6 w.heap.size = some (hvA true kind ver (.slice ad dst.length cd) (.slice as_ src.length cs) (.slice at_ tok.length ct) false false num nl) := row_grown hg6 R5.out (fun h => by have := (O5.out.lt _ h.symm).1; omega)
    have hZ := HZ.out
    rw [HLT.out] at hZ
    have hZ' : (L2 ++ vin tok.length (vlen tok.length) ++ tok) ++ vin (rest + nl) 2 ++ be num nl = Z := by rw [← hZ, ← HL2.out, ← HL1.out]; simp
    have hl6 : (L2 ++ vin tok.length (vlen tok.length) ++ tok).length ≤ 1000 := by have := HL2l.out; have := HL.out.2.2; have := vlen_le tok.length; simp [vin_length]; omega
    have o6' : w6.ownsRow (w.heap.size + 1) 5 1 v6 (L2 ++ vin tok.length (vlen tok.length) ++ tok).length ((L2 ++ vin tok.length (vlen tok.length) ++ tok).map bv) := by simpa using o6
    clear o6
    generalize L2 ++ vin tok.length (vlen tok.length) ++ tok = L3 at o6' hZ' hl6
    have OX := Lib.hid o6'
    have RX := Lib.hid r6
    have ZX := Lib.hid hZ'
    have LX := Lib.hid hl6
    clear o6' r6 hZ hZ' hl6 hg6 O5 R5 S5 bW5 s5 hl5 HZ HLT HL1 HL2 HL2l HL1l
    have c9 : w6.cell? ⟨w.heap.size, 9, none⟩ = some (.int .i64 (nl : Nat)) := row?_cell RX.out 9
    go_wp2_with (first
     |(with_reducible refine Rg.plan_pure ?_ ?_ ?_); kernel_rfl; kernel_rfl; intro _ _|(with_reducible refine Rg.plan_take ?_ ?_ ?_); kernel_rfl; kernel_rfl; intro _ _|(with_reducible refine Rg.plan_keep ?_ ?_); kernel_rfl; intro K hK|refine hK _ _ (Rg.Keep.refl _) ?_; clear hK|refine hK _ _ (Rg.Keep.of_below (by assumption)) ?_; clear hK|(with_reducible refine Rg.plan_skip ?_ ?_); kernel_rfl|(with_reducible refine Rg.plan_done ?_)|(with_reducible refine Rg.calm_normal ?_))
    have hpl := vputlen_any L3 (rest + nl) 2 (by have := LX.out; omega) (by omega) (by omega) v6 w6 (Own.sl OX.out)
    rw [Int.natCast_add] at hpl
    refine hpl.mono ?_
    rintro e w8 ⟨v8, rfl, o8, b8⟩
    have bX := bW6
    have r8 : row? w8 w.heap.size = some (hvA true kind ver (.slice ad dst.length cd) (.slice as_ src.length cs) (.slice at_ tok.length ct) false false num nl) := Rg.stable_row b8 RX.out
    have bW8 : Below w.heap.size w w8 := bX.trans (b8.mono bX.size)
    have o8' : w8.ownsRow w.heap.size 5 1 v8 (L3 ++ vin (rest + nl) 2).length ((L3 ++ vin (rest + nl) 2).map bv) := own_lower o8 bX.size
    have hl8 : (L3 ++ vin (rest + nl) 2).length ≤ 2000 := by have := LX.out; simp [vin_length]; omega
    have c98 : w8.cell? ⟨w.heap.size, 9, none⟩ = some (.int .i64 (nl : Nat)) := row?_cell r8 9
    have c88 : w8.cell? ⟨w.heap.size, 8, none⟩ = some (.int .u64 (num : Nat)) := row?_cell r8 8
    have O8 := Lib.hid o8'
    have HL8 := Lib.hid hl8
    clear o8 o8' r8 b8 hl8 OX RX LX
    go_wp2_with (first
     |(with_reducible refine Rg.plan_pure ?_ ?_ ?_); kernel_rfl; kernel_rfl; intro _ _|(with_reducible refine Rg.plan_take ?_ ?_ ?_); kernel_rfl; kernel_rfl; intro _ _|(with_reducible refine Rg.plan_keep ?_ ?_); kernel_rfl; intro K hK|refine hK _ _ (Rg.Keep.refl _) ?_; clear hK|refine hK _ _ (Rg.Keep.of_below (by assumption)) ?_; clear hK|(with_reducible refine Rg.plan_skip ?_ ?_); kernel_rfl|(with_reducible refine Rg.plan_done ?_)|(with_reducible refine Rg.calm_normal ?_))
    refine (number_any (L3 ++ vin (rest + nl) 2) num nl (by have := HL8.out; omega) (by have := HN.out; omega) (by omega) v8 w.heap.size w8 bW8.size O8.out).mono ?_
    rintro e w9 ⟨v9, rfl, o9, b9⟩
    have H9 := Lib.hid o9
    clear o9
    go_wp2_with fail
    go_ret2
    refine ⟨v9, rfl, ?_, bW8.trans b9⟩
    rw [← ZX.out]
    exact H9.out
   ·have hZ := HZ.out
    rw [hlt] at hZ
    have hZ' : L2 ++ vin (rest + nl) 2 ++ be num nl = Z := by rw [← hZ, ← HL2.out, ← HL1.out]; simp
    have hl6 : L2.length ≤ 1000 := by have := HL2l.out; omega
    have OX := O4
    have RX := R4
    have ZX := Lib.hid hZ'
    have LX := Lib.hid hl6
    clear hlt hZ hZ' hl6 HZ HL1 HL2 HL2l HL1l O4 R4 c45 htw
    have c9 : w4.cell? ⟨w.heap.size, 9, none⟩ = some (.int .i64 (nl : Nat)) := row?_cell RX.out 9
    go_wp2_with (first
     |(with_reducible refine Rg.plan_pure ?_ ?_ ?_); kernel_rfl; kernel_rfl; intro _ _|(with_reducible refine Rg.plan_take ?_ ?_ ?_); kernel_rfl; kernel_rfl; intro _ _|(with_reducible refine Rg.plan_keep ?_ ?_); kernel_rfl; intro K hK|refine hK _ _ (Rg.Keep.refl _) ?_; clear hK|refine hK _ _ (Rg.Keep.of_below (by assumption)) ?_; clear hK|(with_reducible refine Rg.plan_skip ?_ ?_); kernel_rfl|(with_reducible refine Rg.plan_done ?_)|(with_reducible refine Rg.calm_normal ?_))
    have hpl := vputlen_any L2 (rest + nl) 2 (by have := LX.out; omega) (by omega) (by omega) v4 w4 (Own.sl OX.out)
    rw [Int.natCast_add] at hpl
    refine hpl.mono ?_
    rintro e w8 ⟨v8, rfl, o8, b8⟩
    have bX := bW4
    have r8 : row? w8 w.heap.size = some (hvA true kind ver (.slice ad dst.length cd) (.slice as_ src.length cs) (.slice at_ tok.length ct) false false num nl) := Rg.stable_row b8 RX.out
    have bW8 : Below w.heap.size w w8 := bX.trans (b8.mono bX.size)
    have o8' : w8.ownsRow w.heap.size 5 1 v8 (L2 ++ vin (rest + nl) 2).length ((L2 ++ vin (rest + nl) 2).map bv) := own_lower o8 bX.size
    have hl8 : (L2 ++ vin (rest + nl) 2).length ≤ 2000 := by have := LX.out; simp [vin_length]; omega
    have c98 : w8.cell? ⟨w.heap.size, 9, none⟩ = some (.int .i64 (nl : Nat)) := row?_cell r8 9
    have c88 : w8.cell? ⟨w.heap.size, 8, none⟩ = some (.int .u64 (num : Nat)) := row?_cell r8 8
    have O8 := Lib.hid o8'
    have HL8 := Lib.hid hl8
    clear o8 o8' r8 b8 hl8 OX RX LX
    go_wp2_with (first
     |(with_reducible refine Rg.plan_pure ?_ ?_ ?_); kernel_rfl; kernel_rfl; intro _ _|(with_reducible refine Rg.plan_take ?_ ?_ ?_); kernel_rfl; kernel_rfl; intro _ _|(with_reducible refine Rg.plan_keep ?_ ?_); kernel_rfl; intro K hK|refine hK _ _ (Rg.Keep.refl _) ?_; clear hK|refine hK _ _ (Rg.Keep.of_below (by assumption)) ?_; clear hK|(with_reducible refine Rg.plan_skip ?_ ?_); kernel_rfl|(with_reducible refine Rg.plan_done ?_)|(with_reducible refine Rg.calm_normal ?_))
    refine (number_any (L2 ++ vin (rest + nl) 2) num nl (by have := HL8.out; omega) (by have := HN.out; omega) (by omega) v8 w.heap.size w8 bW8.size O8.out).mono ?_
    rintro e w9 ⟨v9, rfl, o9, b9⟩
    have H9 := Lib.hid o9
    clear o9
    go_wp2_with fail
    go_ret2
    refine ⟨v9, rfl, ?_, bW8.trans b9⟩
    rw [← ZX.out]
    exact H9.out
end Go.Proofs.YthjbmggpleliaaaGreatDoor

end
section
namespace Hdr
open Go Go.Rw
theorem n8_mod (x : Nat) : n8 (UInt8.ofNat x) = x % 256 := by simp [n8]
theorem drop_app {b x y : List UInt8} {at_ n : Nat} (h : b.drop at_ = x ++ y) (hx : x.length = n) : b.drop (at_ + n) = y := by
 rw [← List.drop_drop, h, List.drop_left' hx]
theorem app_le {b x y : List UInt8} {at_ n : Nat} (h : b.drop at_ = x ++ y) (hx : x.length = n) : n ≤ b.length - at_ := by
 have := congrArg List.length h
 rw [List.length_drop, List.length_append, hx] at this
 omega
theorem rtake_app {b x y : List UInt8} {at_ n : Nat} (h : b.drop at_ = x ++ y) (hx : x.length = n) : rtake b n (at_, 0) = ((at_ + n, 0), x) := by
 rw [rtake_ok (app_le h hx), h, List.take_left' hx]
theorem rvar_app {b x y : List UInt8} {at_ n k : Nat} (h : b.drop at_ = x ++ y) (hv : vget (x ++ y) = (n, k, 0)) : rvar b (at_, 0) = ((at_ + k, 0), n) := by
 rw [rvar_ok (by rw [h, hv]), h, hv]
theorem vin_1 (n : Nat) : vin n 1 = [UInt8.ofNat n] := by
 have : vmk 1 = 0 := by decide
 simp [vin, this, List.range, List.range.loop]
theorem vin_2 (n : Nat) : vin n 2 = [UInt8.ofNat (n / 256) ||| 64, UInt8.ofNat n] := by
 have : vmk 2 = 64 := by decide
 simp [vin, this, List.range, List.range.loop]
theorem or64 : ∀ k : Fin 64, n8 (UInt8.ofNat k.1 ||| 64) = k.1 + 64 := by decide
theorem vget_vin1 {n : Nat} (h : n < 64) (y : List UInt8) : vget (vin n 1 ++ y) = (n, 1, 0) := by
 have e : n8 (UInt8.ofNat n) = n := by rw [n8_mod]; omega
 have m : vmany (UInt8.ofNat n) = 1 := by unfold vmany; rw [e, Nat.div_eq_of_lt h]
 rw [vin_1]
 unfold vget vnum
 rw [show nth ([UInt8.ofNat n] ++ y) 0 = UInt8.ofNat n from rfl, m, if_neg (by simp), e]
 have : n % 64 = n := by omega
 simp [this]
theorem vget_vin2 {n : Nat} (h : n < 16384) (y : List UInt8) : vget (vin n 2 ++ y) = (n, 2, 0) := by
 have e : n8 (UInt8.ofNat (n / 256) ||| 64) = n / 256 + 64 := or64 ⟨n / 256, by omega⟩
 have m : vmany (UInt8.ofNat (n / 256) ||| 64) = 2 := by unfold vmany; rw [e, show (n / 256 + 64) / 64 = 1 by omega]
 rw [vin_2]
 unfold vget vnum
 rw [show nth ([UInt8.ofNat (n / 256) ||| 64, UInt8.ofNat n] ++ y) 0 = UInt8.ofNat (n / 256) ||| 64 from rfl, m, if_neg (by simp), e]
 have e2 : n8 (UInt8.ofNat n) = n % 256 := n8_mod n
 simp [e2]
 omega
end Hdr

end
