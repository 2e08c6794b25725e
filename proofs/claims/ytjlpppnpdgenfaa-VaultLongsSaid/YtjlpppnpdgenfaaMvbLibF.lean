/- A region that draws its order, in which some operations (calls, new variables) may come in any order: each once, with a promise of its own; the promises together behind all. Over any program. -/
import Derived.Test.YtjlpppnpdgenfaaMvbLibR
import Derived.Test.YtjlpppnpdgenfaaMvb1
namespace Go.Rg
open Go Go.RowKit Go.Rw
variable {P : Program}
structure Flo where
 i : Nat
 d : Tmp
 deps : List Nat
 fresh : Bool
 J : Value → World → Prop
def vblk : Value → Nat
 | .pointer (some a) => a.block
 | .slice (some a) _ _ => a.block
 | _ => 0
def puts (us : Nat → Value) : List Flo → Act → Act
 | [], a => a
 | r :: R, a => puts us R (a.put (some r.d) (us r.i))
def upd (us : Nat → Value) (i : Nat) (v : Value) (j : Nat) : Value := if j = i then v else us j
theorem put_put_same (a : Act) (d : Tmp) (u v : Value) : (a.put (some d) u).put (some d) v = a.put (some d) v := by
 simp only [Act.put]
 congr 1
 apply Array.ext_getElem?
 intro i
 simp only [Array.getElem?_setIfInBounds, Array.size_setIfInBounds]
 split
 ·rename_i h; subst h; rfl
 ·rfl
theorem put_put_comm (a : Act) (d e : Tmp) (u v : Value) (h : d ≠ e) : (a.put (some d) u).put (some e) v = (a.put (some e) v).put (some d) u := by
 simp only [Act.put]
 congr 1
 exact Array.setIfInBounds_comm _ _ h
theorem puts_put (us : Nat → Value) : ∀ (R : List Flo) (a : Act) (d : Tmp) (v : Value), (∀ r ∈ R, r.d ≠ d) → (puts us R a).put (some d) v = puts us R (a.put (some d) v)
 | [], _, _, _, _ => rfl
 | r :: R, a, d, v, h => by
  have h0 : r.d ≠ d := h r (by simp)
  simp only [puts]
  rw [puts_put us R _ d v fun r' hr' => h r' (by simp [hr']), put_put_comm a r.d d _ v h0]
theorem puts_congr {us vs : Nat → Value} : ∀ (R : List Flo) (a : Act), (∀ r ∈ R, us r.i = vs r.i) → puts us R a = puts vs R a
 | [], _, _ => rfl
 | r :: R, a, h => by
  simp only [puts]
  rw [h r (by simp), puts_congr R _ fun r' hr' => h r' (by simp [hr'])]
theorem puts_upd (us : Nat → Value) : ∀ (R : List Flo) (a : Act) (r : Flo) (v : Value), r ∈ R → (R.map (·.i)).Nodup → (R.map (·.d)).Nodup → (puts us R a).put (some r.d) v = puts (upd us r.i v) R a
 | [], _, _, _, h, _, _ => by cases h
 | r0 :: R, a, r, v, h, hi, hd => by
  simp only [List.map_cons, List.nodup_cons] at hi hd
  rcases List.mem_cons.1 h with rfl | h
  ·simp only [puts]
   rw [puts_put us R _ r.d v fun r' hr' e => hd.1 (by rw [← e]; exact List.mem_map_of_mem hr'), put_put_same]
   have e0 : upd us r.i v r.i = v := by simp [upd]
   rw [e0]
   exact puts_congr R _ fun r' hr' => by
    have : r'.i ≠ r.i := fun e => hi.1 (by rw [← e]; exact List.mem_map_of_mem hr')
    simp [upd, this]
  ·simp only [puts]
   have e0 : upd us r.i v r0.i = us r0.i := by
    have : r0.i ≠ r.i := fun e => hi.1 (by rw [e]; exact List.mem_map_of_mem h)
    simp [upd, this]
   rw [puts_upd us R _ r v h hi.2 hd.2, e0]
def setAll : List Nat → Array Bool → Array Bool
 | [], L => L
 | i :: l, L => setAll l (L.setIfInBounds i true)
def floR (ops : Array Oper) (R : List (Nat × Tmp × List Nat)) (tail : List Nat) : Bool :=
 R.all fun r => (match ops[r.1]? with
  | some o => o.dst == some r.2.1 && o.guard.isNone && !tail.contains r.1 && r.2.2.all (fun x => Region.waitsFor .any ops r.1 x) && o.after.all fun e => !Region.binds .any e || (decide (e.on < ops.size) && !tail.contains e.on && (!(R.map (·.1)).contains e.on || decide (e.on < r.1)))
  | none => false) && tail.all fun t => behindB .any ops 4 t r.1
def floL (R : List (Nat × Tmp × List Nat)) (tail : List Nat) (L : Array Bool) : Bool :=
 (List.range L.size).all fun j => if (R.map (·.1)).contains j || tail.contains j then !L.getD j true else L.getD j false
def preB (ops : Array Oper) (R : List (Nat × Tmp × List Nat)) (tail : List Nat) : List (Nat × Nat) → Nat → Array Bool → Bool
 | [], f, listed => decide (f = R.length + tail.length) && floL R tail listed && tailB .any ops tail tail tail.length (setAll (R.map (·.1)) listed)
 | _ :: _, 0, _ => false
 | (i, k) :: p, f + 1, listed => !tail.contains i && (Region.ready .any ops listed).contains i && Region.free .any ops listed i && (k == 3 || (k == 0 && tail.all fun x => behindB .any ops 4 x i)) && preB ops R tail p f (listed.setIfInBounds i true)
def floB (ops : Array Oper) (pre : List (Nat × Nat)) (R : List (Nat × Tmp × List Nat)) (tail : List Nat) : Bool :=
 Region.noSelect ops && decide (R.map (·.1)).Nodup && decide (R.map (·.2.1)).Nodup && floR ops R tail && preB ops R tail pre ops.size (Array.replicate ops.size false)
def key (r : Flo) : Nat × Tmp × List Nat := (r.i, r.d, r.deps)
structure Phase (P : Program) (ops : Array Oper) (Q : Exit → Act → World → Prop) (R : List Flo) (tail : List Nat) (a0 : Act) (w0 : World) : Prop where
 stable : ∀ r ∈ R, ∀ v w w', Below w.heap.size w w' → r.J v w → r.J v w'
 exec : ∀ r ∈ R, ∀ us w, Below w0.heap.size w0 w → (∀ r' ∈ R, r'.i ∈ r.deps → r'.J (us r'.i) w) → ∀ K : Act → World → Prop,
  (∀ v a' w', a' = (puts us R a0).put (some r.d) v → r.J v w' → Below w.heap.size w w' → (r.fresh = true → w.heap.size ≤ vblk v ∧ vblk v < w'.heap.size) → K a' w') →
  (ops.toList.getD r.i default).wp P (puts us R a0) w K NoQ
 last : ∀ us w, Below w0.heap.size w0 w → (∀ r ∈ R, r.J (us r.i) w) → (∀ r ∈ R, r.fresh = true → w0.heap.size ≤ vblk (us r.i) ∧ vblk (us r.i) < w.heap.size) →
  (∀ r ∈ R, ∀ r' ∈ R, r.i ≠ r'.i → r.fresh = true → r'.fresh = true → vblk (us r.i) ≠ vblk (us r'.i)) → wpList P ops (Calm Q) (tail.map fun i => ops.toList.getD i default) (puts us R a0) w
theorem setAll_size : ∀ (l : List Nat) (L : Array Bool), (setAll l L).size = L.size
 | [], _ => rfl
 | i :: l, L => by rw [setAll, setAll_size]; simp
theorem setAll_getD : ∀ (l : List Nat) (L : Array Bool) (j : Nat), j < L.size → (setAll l L).getD j false = (l.contains j || L.getD j false)
 | [], _, _, _ => by simp [setAll]
 | i :: l, L, j, h => by
  rw [setAll, setAll_getD l _ j (by simpa using h)]
  by_cases e : i = j
  ·subst e; simp [h]
  ·have e' : ¬ j = i := fun x => e x.symm
   simp [Array.getElem?_setIfInBounds_ne e, e']
theorem exists_least : ∀ (S : List Nat), S ≠ [] → ∃ m ∈ S, ∀ s ∈ S, m ≤ s
 | [], h => absurd rfl h
 | [x], _ => ⟨x, by simp, by simp⟩
 | x :: y :: S, _ => by
  obtain ⟨m, hm, hle⟩ := exists_least (y :: S) (by simp)
  rcases Nat.le_total x m with h | h
  ·exact ⟨x, by simp, fun s hs => by
    rcases List.mem_cons.1 hs with rfl | hs
    ·exact Nat.le_refl _
    ·exact Nat.le_trans h (hle s hs)⟩
  ·exact ⟨m, List.mem_cons_of_mem _ hm, fun s hs => by
    rcases List.mem_cons.1 hs with rfl | hs
    ·exact h
    ·exact hle s hs⟩
theorem nodup_inj : ∀ {R : List Flo} {a b : Flo}, (R.map (·.i)).Nodup → a ∈ R → b ∈ R → a.i = b.i → a = b
 | [], _, _, _, h, _, _ => by cases h
 | r :: R, a, b, hn, ha, hb, e => by
  simp only [List.map_cons, List.nodup_cons] at hn
  rcases List.mem_cons.1 ha with h1 | h1 <;> rcases List.mem_cons.1 hb with h2 | h2
  ·rw [h1, h2]
  ·exact absurd (by rw [← h1, e]; exact List.mem_map_of_mem h2) hn.1
  ·exact absurd (by rw [← h2, ← e]; exact List.mem_map_of_mem h1) hn.1
  ·exact nodup_inj hn.2 h1 h2 e
theorem wpAnyX_flo {ops : Array Oper} {Q : Exit → Act → World → Prop} {R : List Flo} {tail : List Nat} {a0 : Act} {w0 : World} {L0 : Array Bool} (ph : Phase P ops Q R tail a0 w0)
  (hni : (R.map (·.i)).Nodup) (hnd : (R.map (·.d)).Nodup) (hR : floR ops (R.map key) tail = true) (hL : floL (R.map key) tail L0 = true) (hsz : L0.size = ops.size)
  (hT : tailB .any ops tail tail tail.length (setAll (R.map (·.i)) L0) = true) :
  ∀ (n : Nat) (S : List Nat) (L : Array Bool) (us : Nat → Value) (w : World), S.length = n → S.Nodup → (∀ s ∈ S, s ∈ R.map (·.i)) → L.size = ops.size →
   (∀ j, j < ops.size → L.getD j false = (!(S.contains j || tail.contains j))) → Shut .any ops L → Below w0.heap.size w0 w →
   (∀ r ∈ R, r.i ∉ S → r.J (us r.i) w ∧ (r.fresh = true → w0.heap.size ≤ vblk (us r.i) ∧ vblk (us r.i) < w.heap.size)) →
   (∀ r ∈ R, ∀ r' ∈ R, r.i ≠ r'.i → r.fresh = true → r'.fresh = true → r.i ∉ S → r'.i ∉ S → vblk (us r.i) ≠ vblk (us r'.i)) →
   wpAnyX P .any ops (Calm Q) (fun i => tail.contains i) (n + tail.length) L (puts us R a0) w := by
 have hkey : (R.map key).map (·.1) = R.map (·.i) := by simp [key]
 intro n
 induction n with
 | zero =>
  intro S L us w hS _ _ hLs hLv _ hb hJ hF
  obtain rfl : S = [] := List.eq_nil_of_length_eq_zero hS
  have hLe : L = setAll (R.map (·.i)) L0 := by
   apply Array.ext (by rw [setAll_size, hLs, hsz])
   intro j h1 h2
   have e1 := hLv j (by omega)
   have e2 := setAll_getD (R.map (·.i)) L0 j (by omega)
   have hlj := List.all_eq_true.1 hL j (by simp; omega)
   rw [hkey] at hlj
   have e3 : L.getD j false = (setAll (R.map (·.i)) L0).getD j false := by
    rw [e1, e2]
    have hj0 : j < L0.size := by omega
    by_cases hc : tail.contains j = true
    ·have hnr : (R.map (·.i)).contains j = false := by
      cases hq : (R.map (·.i)).contains j with
      | false => rfl
      | true =>
       exfalso
       obtain ⟨r, hr, hrj⟩ := List.mem_map.1 (by simpa using hq : j ∈ R.map (·.i))
       have := List.all_eq_true.1 hR (key r) (List.mem_map_of_mem hr)
       simp only [Bool.and_eq_true] at this
       have h3 := this.1
       split at h3
       ·simp only [Bool.and_eq_true, key] at h3
        have h4 := h3.1.1.2
        rw [hrj, hc] at h4; simp at h4
       ·cases h3
     rw [hnr, hc] at hlj
     have hf : L0.getD j true = false := by
      cases hq : L0.getD j true with
      | false => rfl
      | true => rw [hq] at hlj; simp at hlj
     rw [hnr, hc, getD_both hf]; rfl
    ·have hc' : tail.contains j = false := by simpa using hc
     rw [hc']
     cases hq : (R.map (·.i)).contains j
     ·rw [hq, hc'] at hlj
      have hf : L0.getD j false = true := by
       cases hq2 : L0.getD j false with
       | true => rfl
       | false => rw [hq2] at hlj; simp at hlj
      rw [hf]; rfl
     ·rfl
   simpa [h1, h2] using e3
  rw [hLe, Nat.zero_add]
  exact wpAnyX_tail tail _ _ _ _ hT (ph.last us w hb (fun r hr => (hJ r hr (by simp)).1) (fun r hr hf => (hJ r hr (by simp)).2 hf) fun r hr r' hr' hne h1 h2 => hF r hr r' hr' hne h1 h2 (by simp) (by simp))
 | succ n ih =>
  intro S L us w hS hSn hSR hLs hLv hSh hb hJ hF
  rw [show n + 1 + tail.length = (n + tail.length) + 1 by omega]
  have inR : ∀ s ∈ S, ∃ r ∈ R, r.i = s := fun s hs => by
   obtain ⟨r, hr, e⟩ := List.mem_map.1 (hSR s hs)
   exact ⟨r, hr, e⟩
  have facts : ∀ r ∈ R, ∃ o, ops[r.i]? = some o ∧ o.dst = some r.d ∧ o.guard = none ∧ tail.contains r.i = false ∧ (∀ x ∈ r.deps, Region.waitsFor .any ops r.i x = true) ∧
    (∀ e ∈ o.after, Region.binds .any e = true → e.on < ops.size ∧ tail.contains e.on = false ∧ ((R.map (·.i)).contains e.on = true → e.on < r.i)) ∧ (∀ t ∈ tail, behindB .any ops 4 t r.i = true) := fun r hr => by
   have h1 := List.all_eq_true.1 hR (key r) (List.mem_map_of_mem hr)
   rw [hkey] at h1
   simp only [Bool.and_eq_true, key] at h1
   obtain ⟨h1, h2⟩ := h1
   cases ho : ops[r.i]? with
   | none => rw [ho] at h1; cases h1
   | some o =>
    rw [ho] at h1
    simp only [Bool.and_eq_true, beq_iff_eq, Option.isNone_iff_eq_none, Bool.not_eq_true', List.all_eq_true, Array.all_eq_true', Bool.or_eq_true, decide_eq_true_eq] at h1
    refine ⟨o, rfl, h1.1.1.1.1, h1.1.1.1.2, h1.1.1.2, h1.1.2, fun e he hbd => ?_, List.all_eq_true.1 h2⟩
    rcases h1.2 e he with h | h
    ·rw [hbd] at h; cases h
    ·exact ⟨h.1.1, h.1.2, fun hc => by
      rcases h.2 with h' | h'
      ·rw [hc] at h'; cases h'
      ·exact of_decide_eq_true h'⟩
  refine ⟨fun h0 => ?_, fun i hi => ?_⟩
  ·exfalso
   obtain ⟨m, hm, hle⟩ := exists_least S (by intro e; subst e; simp at hS)
   obtain ⟨r, hr, rfl⟩ := inR m hm
   obtain ⟨o, ho, -, -, -, -, hafter, -⟩ := facts r hr
   have hlt : r.i < ops.size := (Array.getElem?_eq_some_iff.1 ho).1
   have hrd : r.i ∈ Region.ready .any ops L := by
    rw [mem_ready]
    refine ⟨getD_in (by omega) (by rw [hLv _ hlt]; simp [hm]), o, ho, fun e he hbd => ?_⟩
    obtain ⟨h1, h2, h3⟩ := hafter e he hbd
    rw [hLv _ h1, h2]
    have : S.contains e.on = false := by
     cases hq : S.contains e.on with
     | false => rfl
     | true =>
      exfalso
      have hq' : e.on ∈ S := by simpa using hq
      have := h3 (by simpa using hSR _ hq')
      have := hle _ hq'
      omega
    rw [this]; rfl
   rw [h0] at hrd; cases hrd
  ·obtain ⟨hun, oi, hoi, hall⟩ := mem_ready.1 hi
   have hilt : i < ops.size := (Array.getElem?_eq_some_iff.1 hoi).1
   have hi0 := getD_both hun
   rw [hLv i hilt] at hi0
   have hiS : i ∈ S := by
    cases hq : S.contains i with
    | true => simpa using hq
    | false =>
     exfalso
     rw [hq] at hi0
     have hit : i ∈ tail := by simpa using hi0
     obtain ⟨m, hm, _⟩ := exists_least S (by intro e; subst e; simp at hS)
     obtain ⟨r, hr, rfl⟩ := inR m hm
     obtain ⟨o, ho, -, -, -, -, -, hbh⟩ := facts r hr
     have hl := Shut.behind hSh 4 i (hbh i hit) (fun o' ho' e he hbb => hall e (by rw [hoi] at ho'; cases ho'; exact he) hbb)
     rw [hLv _ (Array.getElem?_eq_some_iff.1 ho).1] at hl
     simp [hm] at hl
   obtain ⟨r, hr, rfl⟩ := inR i hiS
   obtain ⟨o, ho, hdst, hgd, hnt, hdeps, hafter, hbh⟩ := facts r hr
   obtain rfl : oi = o := Option.some.inj (hoi.symm.trans ho)
   have hget : ops.toList.getD r.i default = oi := by simp [ho]
   unfold wpOp
   simp only [ho]
   rw [if_pos (by simp [Region.wanted, hgd])]
   refine .inl (upon_monoQ (Q := NoQ) (fun _ _ _ h => h.elim) ?_)
   have hx := ph.exec r hr us w hb (fun r' hr' hd => ?_) (fun a' w' => (tail.contains r.i = false → Keep w w') ∧ wpAnyX P .any ops (Calm Q) (fun i => tail.contains i) (n + tail.length) (L.setIfInBounds r.i true) a' w') ?_
   ·rw [hget] at hx; exact hx
   ·have hw := hdeps _ hd
    obtain ⟨oj, hoj, e, he, hbd, hon⟩ := Region.waitsFor_spec hw
    obtain rfl : oj = oi := Option.some.inj (hoj.symm.trans ho)
    have hl := hall e he hbd
    rw [hon] at hl
    have hlt : r'.i < ops.size := by rw [← hon]; exact (hafter e he hbd).1
    rw [hLv _ hlt] at hl
    exact (hJ r' hr' (by intro hc; simp [hc] at hl)).1
   ·intro v a' w' ha' hJv hbw hfr
    refine ⟨fun _ => Keep.of_below hbw, ?_⟩
    rw [ha', puts_upd us R a0 r v hr hni hnd]
    have hbw' : Below w0.heap.size w0 w' := hb.trans (hbw.mono hb.size)
    have uniq : ∀ r' ∈ R, r'.i = r.i → r' = r := fun r' hr' e => by
     exact nodup_inj hni hr' hr e
    have hupd : ∀ r' ∈ R, r'.i ≠ r.i → upd us r.i v r'.i = us r'.i := fun r' _ hne => by simp [upd, hne]
    have hself : upd us r.i v r.i = v := by simp [upd]
    have hin : ∀ x, x ∈ S.erase r.i ↔ x ≠ r.i ∧ x ∈ S := fun x => hSn.mem_erase_iff
    refine ih (S.erase r.i) _ (upd us r.i v) w' (by rw [List.length_erase_of_mem hiS, hS]; rfl) (hSn.erase _) (fun s hs => hSR s ((hin s).1 hs).2) (by simpa using hLs) ?_ (hSh.set hi) hbw' ?_ ?_
    ·intro j hj
     by_cases e : r.i = j
     ·subst e
      have : (S.erase r.i).contains r.i = false := by
       cases hq : (S.erase r.i).contains r.i with
       | false => rfl
       | true => exact absurd rfl ((hin _).1 (by simpa using hq)).1
      rw [this, hnt]; simp [hLs, hj]
     ·rw [getD_set_ne false e, hLv j hj]
      have : (S.erase r.i).contains j = S.contains j := by
       rw [Bool.eq_iff_iff]; simp only [List.contains_iff_mem]
       rw [hin]; exact ⟨fun h => h.2, fun h => ⟨fun x => e x.symm, h⟩⟩
      rw [this]
    ·intro r' hr' hnS
     by_cases e : r'.i = r.i
     ·obtain rfl := uniq r' hr' e
      rw [hself]
      exact ⟨hJv, fun hf => ⟨Nat.le_trans hb.size (hfr hf).1, (hfr hf).2⟩⟩
     ·rw [hupd r' hr' e]
      have := hJ r' hr' (fun hc => hnS ((hin _).2 ⟨e, hc⟩))
      exact ⟨ph.stable r' hr' _ _ _ hbw this.1, fun hf => ⟨(this.2 hf).1, Nat.lt_of_lt_of_le (this.2 hf).2 hbw.size⟩⟩
    ·intro r1 h1 r2 h2 hne f1 f2 n1 n2
     by_cases e1 : r1.i = r.i
     ·obtain rfl := uniq r1 h1 e1
      rw [hself, hupd r2 h2 (fun e => hne e.symm)]
      have := (hJ r2 h2 (fun hc => n2 ((hin _).2 ⟨fun e => hne e.symm, hc⟩))).2 f2
      have := (hfr f1).1
      omega
     ·by_cases e2 : r2.i = r.i
      ·obtain rfl := uniq r2 h2 e2
       rw [hself, hupd r1 h1 e1]
       have := (hJ r1 h1 (fun hc => n1 ((hin _).2 ⟨e1, hc⟩))).2 f1
       have := (hfr f2).1
       omega
      ·rw [hupd r1 h1 e1, hupd r2 h2 e2]
       exact hF r1 h1 r2 h2 hne f1 f2 (fun hc => n1 ((hin _).2 ⟨e1, hc⟩)) (fun hc => n2 ((hin _).2 ⟨e2, hc⟩))
theorem put_self (a : Act) (d : Tmp) : a.put (some d) (a.tmps.getD d undef) = a := by
 cases a
 simp only [Act.put]
 congr 1
 apply Array.ext_getElem?
 intro i
 rw [Array.getElem?_setIfInBounds]
 split
 ·rename_i h; subst h
  split
  ·rename_i h1; simp [h1]
  ·rename_i h1; simp; omega
 ·rfl
theorem puts_id {us : Nat → Value} : ∀ (R : List Flo) (a : Act), (∀ r ∈ R, us r.i = a.tmps.getD r.d undef) → puts us R a = a
 | [], _, _ => rfl
 | r :: R, a, h => by
  rw [puts, h r (by simp), put_self]
  exact puts_id R a fun r' hr' => h r' (by simp [hr'])
theorem puts_self {R : List Flo} (hni : (R.map (·.i)).Nodup) (a : Act) : ∃ us, puts us R a = a := by
 refine ⟨fun i => ((R.find? fun r => r.i == i).map fun r => a.tmps.getD r.d undef).getD undef, puts_id R a fun r hr => ?_⟩
 cases hq : R.find? fun r' => r'.i == r.i with
 | none =>
  have := List.find?_eq_none.1 hq r hr
  simp at this
 | some r' =>
  have h1 := List.mem_of_find?_eq_some hq
  have h2 := List.find?_some hq
  rw [nodup_inj hni h1 hr (by simpa using h2)]; rfl
theorem wpAnyX_pre {ops : Array Oper} {Q : Exit → Act → World → Prop} {R : List Flo} {tail : List Nat} (hsel : Region.noSelect ops = true) (hni : (R.map (·.i)).Nodup) (hnd : (R.map (·.d)).Nodup) (hR : floR ops (R.map key) tail = true) :
  ∀ (p : List (Nat × Nat)) (f : Nat) (listed : Array Bool) (a : Act) (w : World), Shut .any ops listed → listed.size = ops.size →
   preB ops (R.map key) tail p f listed = true → wpPlan P ops (fun _ a' w' => Phase P ops Q R tail a' w') ((row p []).map fun i => ops.toList.getD i default) a w →
   wpAnyX P .any ops (Calm Q) (fun i => tail.contains i) f listed a w
 | [], f, listed, a, w, inv, hsz, hB, h => by
  simp only [preB, Bool.and_eq_true, decide_eq_true_eq] at hB
  obtain ⟨⟨hf, hL⟩, hT⟩ := hB
  have hkey : (R.map key).map (·.1) = R.map (·.i) := by simp [key]
  rw [hkey] at hT
  have ph : Phase P ops Q R tail a w := h
  obtain ⟨us, hus⟩ := puts_self hni a
  have := wpAnyX_flo ph hni hnd hR hL hsz hT (R.map (·.i)).length (R.map (·.i)) listed us w rfl hni (fun _ h => h) hsz ?_ inv (Below.refl _ _) (fun r hr hn => absurd (List.mem_map_of_mem hr) hn) (fun r hr _ _ _ _ _ hn => absurd (List.mem_map_of_mem hr) hn)
  ·rw [hus] at this
   rw [hf]; simpa using this
  ·intro j hj
   have h1 := List.all_eq_true.1 hL j (by simp; omega)
   rw [hkey] at h1
   cases hq : ((R.map (·.i)).contains j || tail.contains j)
   ·rw [hq] at h1; simpa using h1
   ·rw [hq] at h1
    have : listed.getD j true = false := by
     cases hq2 : listed.getD j true with
     | false => rfl
     | true => rw [hq2] at h1; simp at h1
    rw [getD_both this]; rfl
 | _ :: _, 0, _, _, _, _, _, hB, _ => by simp [preB] at hB
 | (i, k) :: p, f + 1, listed, a, w, inv, hsz, hB, h => by
  simp only [preB, Bool.and_eq_true, Bool.not_eq_true', Bool.or_eq_true, beq_iff_eq] at hB
  obtain ⟨⟨⟨⟨hXi, hr⟩, hf⟩, hk⟩, hB'⟩ := hB
  simp only [row, PT.map, wpPlan] at h
  have hi := get_ready (i := i) (by simpa using hr)
  have hr' : i ∈ Region.ready .any ops listed := by simpa using hr
  rcases hk with rfl | ⟨rfl, hb⟩
  ·have takeP : ∀ v, YieldsIf P ops (fun _ => True) (ops.toList.getD i default) v a → wpPlan P ops (fun _ a' w' => Phase P ops Q R tail a' w') ((row p []).map fun i => ops.toList.getD i default) (a.put (ops.toList.getD i default).dst v) w →
     wpAnyX P .any ops (Calm Q) (fun i => tail.contains i) (f + 1) listed a w := fun v hy hK =>
    wpAnyX_first (G := fun _ _ => True) (fun _ => trivial) hi (Region.noSelect_spec hsel) hXi (fun _ _ _ h => h) (fun h _ => h) (fun _ _ _ _ _ _ => trivial)
     _ listed a w inv (Region.free_spec hi hf) hr' hy
     (wpAnyX_pre hsel hni hnd hR p f _ _ _ (inv.set hr') (by simpa using hsz) hB' hK)
   by_cases hw : Region.wanted (ops.toList.getD i default) (yielded ops a.tmps) = true
   ·simp only [hw, if_true] at h
    obtain ⟨s, hs, he⟩ := firm_of_pureB (R := fun _ _ => True) h.1
    obtain ⟨v, hy, hK⟩ := taken hs he hw h.2
    exact takeP v hy hK
   ·simp only [hw] at h
    exact takeP undef (.inr ⟨by simpa using hw, rfl⟩) h
  ·have takeK : ∀ v, YieldsIf P ops (Keep w) (ops.toList.getD i default) v a → wpPlan P ops (fun _ a' w' => Phase P ops Q R tail a' w') ((row p []).map fun i => ops.toList.getD i default) (a.put (ops.toList.getD i default).dst v) w →
     wpAnyX P .any ops (Calm Q) (fun i => tail.contains i) (f + 1) listed a w := fun v hy hK =>
    wpAnyX_first (G := Keep) Keep.refl hi (Region.noSelect_spec hsel) hXi (fun _ _ _ h => h) yieldsIf_keep
     (fun j l2 inv2 hu hj hX => hX (by
      cases hc : tail.contains j with
      | false => rfl
      | true =>
       exfalso
       have hbj := List.all_eq_true.1 hb j (by simpa using hc)
       obtain ⟨_, oj, hoj, hall⟩ := mem_ready.1 hj
       have := Shut.behind inv2 4 j hbj (fun o' ho' e he hbb => hall e (by rw [hoj] at ho'; cases ho'; exact he) hbb)
       rw [hu] at this; cases this))
     _ listed a w inv (Region.free_spec hi hf) hr' hy
     (wpAnyX_pre hsel hni hnd hR p f _ _ _ (inv.set hr') (by simpa using hsz) hB' hK)
   by_cases hw : Region.wanted (ops.toList.getD i default) (yielded ops a.tmps) = true
   ·simp only [hw, if_true] at h
    obtain ⟨s, hs, he⟩ := firm_of_firmB h.1
    obtain ⟨v, hy, hK⟩ := taken hs he hw h.2
    exact takeK v hy hK
   ·simp only [hw] at h
    exact takeK undef (.inr ⟨by simpa using hw, rfl⟩) h
theorem wp_region_flo {Q : Exit → Act → World → Prop} {id : Nat} {a : Act} {w : World} {l : List Oper} (pre : List (Nat × Nat)) (R : List Flo) (ks : List (Nat × Tmp × List Nat)) (tail : List Nat) (hm : P.follows .mixedOrders = true)
  (hB : floB l.toArray pre ks tail = true) (hk : R.map key = ks)
  (h : wpPlan P l.toArray (fun _ a' w' => Phase P l.toArray Q R tail a' w') ((row pre []).map fun i => l.getD i default) a w.drew) : (Code.region id l.toArray true).wp P Q a w := by
 subst hk
 simp only [floB, Bool.and_eq_true, decide_eq_true_eq] at hB
 obtain ⟨⟨⟨⟨hsel, hni⟩, hnd⟩, hR⟩, hpre⟩ := hB
 have e1 : (R.map key).map (·.1) = R.map (·.i) := by simp [key]
 have e2 : (R.map key).map (·.2.1) = R.map (·.d) := by simp [key]
 rw [e1] at hni
 rw [e2] at hnd
 have inv0 : Shut .any l.toArray (Array.replicate l.toArray.size false) := ⟨by simp, fun j oj _ hl => (by rw [getD_replicate_false] at hl; cases hl)⟩
 exact wp_region_any hm (wpAny_of_X Calm.imp _ _ _ _ (wpAnyX_pre hsel hni hnd hR pre _ _ a w.drew inv0 (by simp) hpre h))
theorem phase_done {ops : Array Oper} {Q : Exit → Act → World → Prop} {R : List Flo} {tail : List Nat} {a : Act} {w : World} (h : Phase P ops Q R tail a w) : wpList P ops (Calm (fun _ a' w' => Phase P ops Q R tail a' w')) [] a w := h
theorem stable_row {B : Nat} {c : Array Value} {w w' : World} (hb : Below w.heap.size w w') (h : row? w B = some c) : row? w' B = some c := by rw [row?_below hb (row?_lt h)]; exact h
theorem exec_call {o : Oper} {a : Act} {w : World} {K : Act → World → Prop} {f : FuncId} {args : Array Value} {post : Ending → World → Prop} (he : (execOp a.eval o).run P w = .ok (.enter f args) w) (hc : Calls P f args w post)
  (h : ∀ e w', post e w' → ∃ v, e = .returned v ∧ K (a.put o.dst v) w') : o.wp P a w K NoQ := by
 unfold Oper.wp
 rw [he, Oper.upon_enter]
 exact hc.mono fun e w' hp => by obtain ⟨v, rfl, hK⟩ := h e w' hp; exact hK
theorem exec_value {o : Oper} {a : Act} {w w' : World} {v : Value} {K : Act → World → Prop} (he : (execOp a.eval o).run P w = .ok (.value v) w') (h : K (a.put o.dst v) w') : o.wp P a w K NoQ := by
 unfold Oper.wp
 rw [he]
 exact h
theorem exec_conv {o : Oper} {a : Act} {w : World} {v xv : Value} {src dst : TypeId} {x : Operand} {K : Act → World → Prop} (ho : o.op = .convert src dst x) (ha : a.eval x = xv) (hr : (convert src dst xv).run P w = .ok v w)
  (h : K (a.put o.dst v) w) : o.wp P a w K NoQ := by
 refine exec_value (v := v) (w' := w) ?_ h
 simp [execOp, ho, ha, hr, Result.andThen]
end Go.Rg
