/- Law; Low; HdrRo. -/
import Derived.ProofKit
import Derived.JoinedCond
import Derived.OpenShut
import Derived.OpenVars
import Derived.Test.YtjlpppnpdgenfaaMvb1
import Derived.Test.YtjlpppnpdgenfaaRows
import Derived.Test.YtjlpppnpdgenfaaMvbLibR
import Derived.Test.YtjlpppnpdgenfaaMvb14
import Derived.Test.YtjlpppnpdgenfaaMvb16
import Derived.Test.YtjlpppnpdgenfaaMvbHdrPR
import Derived.Test.YtjlpppnpdgenfaaMvb18
import Derived.Test.YtjlpppnpdgenfaaMvbLibZ
section
namespace Go.Law
open Go Go.RowKit Go.ChangeShapes Go.WideShapes Go.ChangeAt Go.Rw
section
variable {P : Program} {H : Type} {enc : TypeId × Value → H}
theorem trodAll_below (hl : laidOutB P = true) {W W' : World} (hb : Below W.heap.size W W') :
  ∀ {ts : List TypeId} {vs : List Value} {ds : List (DataW H)} {ps : List MemPlace}, (ts.all fun t => P.readableRec t && decide (t < P.types.size)) = true →
   DataW.TrodAll enc P W 0 (fun _ => true) true ts vs ds ps → DataW.TrodAll enc P W' 0 (fun b => decide (b < W.heap.size)) true ts vs ds ps
 | [], [], [], _, _, h => h
 | t :: ts, v :: vs, d :: ds, ps, hr, h => by
  have hlt := DataW.TrodAll.lt h
  obtain ⟨p, q, h1, h2, rfl⟩ := h
  simp only [List.all_cons, Bool.and_eq_true, decide_eq_true_eq] at hr
  exact ⟨p, q, Below.trod hl hr.1.1 hr.1.2 h1 hb (fun x hx => hlt x (by simp [hx])), trodAll_below hl hb hr.2 h2, rfl⟩
 | [], [], _ :: _, _, _, h => h.elim
 | [], _ :: _, _, _, _, h => by cases h
 | _ :: _, [], _, _, _, h => by cases h
 | _ :: _, _ :: _, [], _, _, h => h.elim
theorem post_of_law {f : Func} {s : ChangeSpec} {W W' : World} {args : Array Value} {ds gs : List (DataW H)} {before : List MemPlace} {tb : TypeId}
  (hl : laidOutB P = true) (hr : (f.params.toList.all fun t => P.readableRec t && decide (t < P.types.size)) = true)
  (hW : DataW.Whole enc P f.params.toList s.vars false W args.toList ds gs before) (hv : s.vars = []) (hb : Below W.heap.size W W')
  (hf : f.resultTypes = #[tb]) (hu : P.underlying tb = some .bool)
  (h1 : (s.fn H ds).results = [.lit (.bool true)]) (h2 : (s.fn H ds).args = ds) (h3 : (s.fn H ds).vars = []) :
  s.post enc P f false true false false W args (.bool true) W' := by
 have hW' := hW
 obtain ⟨p, q, hA, hV, rfl, hfz, hnd⟩ := hW
 rw [hv] at hV
 obtain ⟨rfl, rfl⟩ := trodVars_none hV
 refine ⟨ds, [], p ++ [], [], p, [], hW', ?_, ?_, ?_, hb.frame _, fun h => by cases h⟩
 ·rw [List.append_nil, h1, hf]
  exact trodAll_cons_mk (shut_bool hu true) trodAll_mk0
 ·rw [List.append_nil, h2]
  exact trodAll_below hl hb hr hA
 ·rw [List.append_nil, h3, hv]; rfl
theorem open_bytes {w : World} {r : Reach} {base : Nat} {t : TypeId} {n : Nat} {e : TypeId} {v : Value} (hu : P.underlying t = some (.array n e)) (hn : P.cellsOf t = n)
  (hc : ∃ ts, P.cellTypes P.depth t = some ts ∧ ts.all (· == e) = true) (he : P.underlying e = some (.int .u8)) (h : Value.okWide P w r base t v) : ∃ l : List UInt8, l.length = n ∧ v = .agg (bvs l) := by
 simp only [Value.okWide, hu] at h
 obtain ⟨cs, rfl, hsz, ts, hts, _, hcell⟩ := h
 obtain ⟨ts', hts', hall⟩ := hc
 obtain rfl : ts' = ts := Option.some.inj (hts'.symm.trans hts)
 have hv : ∀ (l : List Value), (∀ v ∈ l, ∃ b : UInt8, v = bv b) → ∃ bs : List UInt8, l = bs.map bv := by
  intro l
  induction l with
  | nil => intro _; exact ⟨[], rfl⟩
  | cons v l ih =>
   intro hl
   obtain ⟨b, rfl⟩ := hl v (by simp)
   obtain ⟨bs, rfl⟩ := ih fun v hv => hl v (by simp [hv])
   exact ⟨b :: bs, rfl⟩
 obtain ⟨bs, hbs⟩ := hv cs.toList (by
  intro v hv
  obtain ⟨i, hi⟩ := List.getElem?_of_mem hv
  obtain ⟨u, hu', hok⟩ := hcell i v (by simpa using hi)
  have hue : u = e := by
   have hm := List.mem_of_getElem? hu'
   simpa using List.all_eq_true.1 hall u hm
  subst hue
  have hok2 : Cell.ok P w r base u v := by
   unfold Cell.okWide at hok
   rw [he] at hok
   exact hok
  unfold Cell.ok at hok2
  rw [he] at hok2
  cases v <;> simp at hok2
  rename_i k x
  obtain ⟨rfl, hwf⟩ := hok2
  refine ⟨UInt8.ofInt x, ?_⟩
  have hx : 0 ≤ x ∧ x ≤ 255 := by simpa [IntKind.has, IntKind.min, IntKind.max, IntKind.signed, IntKind.bits] using hwf
  have : (n8 (UInt8.ofInt x) : Int) = x := by
   simp [n8, UInt8.ofInt]; omega
  rw [bv_eq, this])
 refine ⟨bs, ?_, ?_⟩
 ·have := congrArg List.length hbs
  simp at this
  omega
 ·congr 1
  apply Array.toList_inj.1
  rw [hbs]; simp [bvs]
theorem open_u8 {w : World} {r : Reach} {base : Nat} {t : TypeId} {v : Value} (hu : P.underlying t = some (.int .u8)) (h : Value.okWide P w r base t v) : ∃ b : UInt8, v = .int .u8 (n8 b : Nat) := by
 simp only [Value.okWide, hu, Cell.okWide, Cell.ok] at h
 cases v <;> simp at h
 rename_i k x
 obtain ⟨rfl, hwf⟩ := h
 have hx : 0 ≤ x ∧ x ≤ 255 := by simpa [IntKind.has, IntKind.min, IntKind.max, IntKind.signed, IntKind.bits] using hwf
 refine ⟨UInt8.ofInt x, ?_⟩
 have : (n8 (UInt8.ofInt x) : Int) = x := by simp [n8, UInt8.ofInt]; omega
 rw [this]
theorem open_i64 {w : World} {r : Reach} {base : Nat} {t : TypeId} {v : Value} (hu : P.underlying t = some (.int .i64)) (h : Value.okWide P w r base t v) : ∃ x : Int, v = .int .i64 x ∧ -9223372036854775808 ≤ x ∧ x ≤ 9223372036854775807 := by
 simp only [Value.okWide, hu, Cell.okWide, Cell.ok] at h
 cases v <;> simp at h
 rename_i k x
 obtain ⟨rfl, hwf⟩ := h
 have hx : -9223372036854775808 ≤ x ∧ x ≤ 9223372036854775807 := by simpa [IntKind.has, IntKind.min, IntKind.max, IntKind.signed, IntKind.bits] using hwf
 exact ⟨x, rfl, hx⟩
end
end Go.Law

end
section
namespace Go.Proofs.Ytjlpppnpdgenfaa
open Go.RowKit Go.Rw
def low (x : Int) (n : Nat) : Nat := (IntKind.u64.wrap x).toNat % n
theorem low_lt (x : Int) (n : Nat) (h : 0 < n) : low x n < n := Nat.mod_lt _ h
theorem u64_nonneg (x : Int) : 0 ≤ IntKind.u64.wrap x ∧ IntKind.u64.wrap x ≤ 18446744073709551615 := by
 simp [IntKind.wrap, IntKind.bits, IntKind.signed]; omega
set_option maxHeartbeats 400000 in
theorem low_any (x : Int) (n : Nat) (h0 : 0 < n) (h1 : (n : Int) ≤ 9223372036854775807) (w : World) :
  Calls Try.prog 21 #[.int .i64 x, .int .i64 (n : Nat)] w fun e w' => e = .returned (.int .i64 (low x n : Nat)) ∧ w = w' := by
 have e1 : IntKind.u64.wrap (n : Int) = n := IntWalk.u64_in _ (by omega)
 obtain ⟨u, hu⟩ : ∃ u : Nat, IntKind.u64.wrap x = (u : Int) := ⟨(IntKind.u64.wrap x).toNat, by have := (u64_nonneg x).1; omega⟩
 have hl : low x n = u % n := by unfold low; rw [hu]; simp
 have hlt := low_lt x n h0
 have hv : wrap64 ((u : Int) % (n : Int)) = ((low x n : Nat) : Int) := by
  rw [show (u : Int) % (n : Int) = ((low x n : Nat) : Int) by rw [hl]; rfl]
  exact IntWalk.wrap64_in _ (by omega)
 have HV := Lib.hid hv
 clear hv
 have E1 := Lib.hid e1
 clear e1
 have hc1 : ∀ W : World, (Go.convert 3 57 (.int .i64 x)).run Try.prog W = .ok (.int .u64 (u : Nat)) W := fun W => by
  simp [Go.convert, go_sem, Conv.intToInt, hu]
 have hc2 : ∀ W : World, (Go.convert 3 57 (.int .i64 (n : Nat))).run Try.prog W = .ok (.int .u64 (n : Nat)) W := fun W => by
  simp [Go.convert, go_sem, Conv.intToInt, E1.out]
 clear hu hl
 go_enter Try.func21, Try.ntmps21
 go_wp2
 go_ret
 exact ⟨congrArg (fun z => Ending.returned (.int .i64 z)) HV.out, rfl⟩
end Go.Proofs.Ytjlpppnpdgenfaa

end
section
namespace Hdr
open Go.Rw
theorem rid_len (b : List UInt8) (l m : Nat) (s : Nat × Int) : (rid b l m s).2.length ≤ 256 := by
 unfold rid
 exact Nat.le_trans (rtake_len _ _ _) (by have := rnum_lt b 1 s; omega)
theorem get_len (b : List UInt8) : (get b).1.dst.length ≤ 256 ∧ (get b).1.src.length ≤ 256 ∧ (get b).1.tok.length ≤ 256 := by
 unfold get
 split
 ·exact ⟨by simp [hd0], by simp [hd0], by simp [hd0]⟩
 ·unfold gAll
  split
  ·refine ⟨rid_len _ _ _ _, rid_len _ _ _ _, ?_⟩
   unfold aTok
   split
   ·exact Nat.le_trans (rtake_len _ _ _) (by omega)
   ·simp
  ·refine ⟨?_, by simp, by simp⟩
   exact Nat.le_trans (rtake_len _ _ _) (by omega)
end Hdr
namespace Go.Proofs.Ytjlpppnpdgenfaa
open Go.RowKit Go.Rw Hdr
attribute [local go_sem ↓] ldH stH alH bdR bdH hvA_0 hvA_1 hvA_2 hvA_3 hvA_4 hvA_5 hvA_6 hvA_7 hvA_8 hvA_9
attribute [local go_sem] rldH rstH ralH setRow_alloc_at setRow_alloc_past setRow_drew
end Go.Proofs.Ytjlpppnpdgenfaa

end
