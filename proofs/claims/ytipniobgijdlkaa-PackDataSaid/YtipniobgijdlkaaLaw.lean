/- What closes a law's row: the call answers true and leaves all that stood as it was. Over any program. -/
import Derived.ProofKit
import Derived.JoinedCond
import Derived.OpenShut
import Derived.OpenVars
import Derived.Test.YtipniobgijdlkaaLibB
namespace Go.Law
open Go Go.RowKit Go.ChangeShapes Go.WideShapes Go.ChangeAt Go.Rw

section
variable {P : Program} {H : Type} {enc : TypeId × Value → H}

/-- Each argument reads behind the call as it read before. -/
theorem trodAll_below (hl : laidOutB P = true) {W W' : World} (hb : Below W.heap.size W W') :
    ∀ {ts : List TypeId} {vs : List Value} {ds : List (DataW H)} {ps : List MemPlace}, (ts.all fun t => P.readableRec t && decide (t < P.types.size)) = true →
      DataW.TrodAll enc P W 0 (fun _ => true) true ts vs ds ps → DataW.TrodAll enc P W' 0 (fun b => decide (b < W.heap.size)) true ts vs ds ps
  | [], [], [], _, _, h => h
  | t :: ts, v :: vs, d :: ds, ps, hr, h => by
    have hlt := DataW.TrodAll.lt h
    obtain ⟨p, q, h1, h2, rfl⟩ := h
    simp only [List.all_cons, Bool.and_eq_true, decide_eq_true_eq] at hr
    exact ⟨p, q, Below.trod hl hr.1.1 hr.1.2 h1 hb (fun x hx => hlt x (by simp [hx])), trodAll_below hl hb hr.2 h2, rfl⟩
  | [], [], _ :: _, _, _, h => h.elim
  | [], _ :: _, _, _, _, h => by cases h
  | _ :: _, [], _, _, _, h => by cases h
  | _ :: _, _ :: _, [], _, _, h => h.elim

/-- The post of a law: the answer is true, the arguments are as they were. -/
theorem post_of_law {f : Func} {s : ChangeSpec} {W W' : World} {args : Array Value} {ds gs : List (DataW H)} {before : List MemPlace} {tb : TypeId}
    (hl : laidOutB P = true) (hr : (f.params.toList.all fun t => P.readableRec t && decide (t < P.types.size)) = true)
    (hW : DataW.Whole enc P f.params.toList s.vars false W args.toList ds gs before) (hv : s.vars = []) (hb : Below W.heap.size W W')
    (hf : f.resultTypes = #[tb]) (hu : P.underlying tb = some .bool)
    (h1 : (s.fn H ds).results = [.lit (.bool true)]) (h2 : (s.fn H ds).args = ds) (h3 : (s.fn H ds).vars = []) :
    s.post enc P f false true false false W args (.bool true) W' := by
  have hW' := hW
  obtain ⟨p, q, hA, hV, rfl, hfz, hnd⟩ := hW
  rw [hv] at hV
  obtain ⟨rfl, rfl⟩ := trodVars_none hV
  refine ⟨ds, [], p ++ [], [], p, [], hW', ?_, ?_, ?_, hb.frame _, fun h => by cases h⟩
  · rw [List.append_nil, h1, hf]
    exact trodAll_cons_mk (shut_bool hu true) trodAll_mk0
  · rw [List.append_nil, h2]
    exact trodAll_below hl hb hr hA
  · rw [List.append_nil, h3, hv]; rfl

/-- A row of numbers of one kind, by its own types alone: bytes. -/
theorem open_bytes {w : World} {r : Reach} {base : Nat} {t : TypeId} {n : Nat} {e : TypeId} {v : Value} (hu : P.underlying t = some (.array n e)) (hn : P.cellsOf t = n)
    (hc : ∃ ts, P.cellTypes P.depth t = some ts ∧ ts.all (· == e) = true) (he : P.underlying e = some (.int .u8)) (h : Value.okWide P w r base t v) : ∃ l : List UInt8, l.length = n ∧ v = .agg (bvs l) := by
  simp only [Value.okWide, hu] at h
  obtain ⟨cs, rfl, hsz, ts, hts, _, hcell⟩ := h
  obtain ⟨ts', hts', hall⟩ := hc
  obtain rfl : ts' = ts := Option.some.inj (hts'.symm.trans hts)
  have hv : ∀ (l : List Value), (∀ v ∈ l, ∃ b : UInt8, v = bv b) → ∃ bs : List UInt8, l = bs.map bv := by
    intro l
    induction l with
    | nil => intro _; exact ⟨[], rfl⟩
    | cons v l ih =>
      intro hl
      obtain ⟨b, rfl⟩ := hl v (by simp)
      obtain ⟨bs, rfl⟩ := ih fun v hv => hl v (by simp [hv])
      exact ⟨b :: bs, rfl⟩
  obtain ⟨bs, hbs⟩ := hv cs.toList (by
    intro v hv
    obtain ⟨i, hi⟩ := List.getElem?_of_mem hv
    obtain ⟨u, hu', hok⟩ := hcell i v (by simpa using hi)
    have hue : u = e := by
      have hm := List.mem_of_getElem? hu'
      simpa using List.all_eq_true.1 hall u hm
    subst hue
    have hok2 : Cell.ok P w r base u v := by
      unfold Cell.okWide at hok
      rw [he] at hok
      exact hok
    unfold Cell.ok at hok2
    rw [he] at hok2
    cases v <;> simp at hok2
    rename_i k x
    obtain ⟨rfl, hwf⟩ := hok2
    refine ⟨UInt8.ofInt x, ?_⟩
    have hx : 0 ≤ x ∧ x ≤ 255 := by simpa [IntKind.has, IntKind.min, IntKind.max, IntKind.signed, IntKind.bits] using hwf
    have : (n8 (UInt8.ofInt x) : Int) = x := by
      simp [n8, UInt8.ofInt]; omega
    rw [bv_eq, this])
  refine ⟨bs, ?_, ?_⟩
  · have := congrArg List.length hbs
    simp at this
    omega
  · congr 1
    apply Array.toList_inj.1
    rw [hbs]; simp [bvs]
theorem open_u8 {w : World} {r : Reach} {base : Nat} {t : TypeId} {v : Value} (hu : P.underlying t = some (.int .u8)) (h : Value.okWide P w r base t v) : ∃ b : UInt8, v = .int .u8 (n8 b : Nat) := by
  simp only [Value.okWide, hu, Cell.okWide, Cell.ok] at h
  cases v <;> simp at h
  rename_i k x
  obtain ⟨rfl, hwf⟩ := h
  have hx : 0 ≤ x ∧ x ≤ 255 := by simpa [IntKind.has, IntKind.min, IntKind.max, IntKind.signed, IntKind.bits] using hwf
  refine ⟨UInt8.ofInt x, ?_⟩
  have : (n8 (UInt8.ofInt x) : Int) = x := by simp [n8, UInt8.ofInt]; omega
  rw [this]
theorem open_i64 {w : World} {r : Reach} {base : Nat} {t : TypeId} {v : Value} (hu : P.underlying t = some (.int .i64)) (h : Value.okWide P w r base t v) : ∃ x : Int, v = .int .i64 x ∧ -9223372036854775808 ≤ x ∧ x ≤ 9223372036854775807 := by
  simp only [Value.okWide, hu, Cell.okWide, Cell.ok] at h
  cases v <;> simp at h
  rename_i k x
  obtain ⟨rfl, hwf⟩ := h
  have hx : -9223372036854775808 ≤ x ∧ x ≤ 9223372036854775807 := by simpa [IntKind.has, IntKind.min, IntKind.max, IntKind.signed, IntKind.bits] using hwf
  exact ⟨x, rfl, hx⟩
end
end Go.Law
