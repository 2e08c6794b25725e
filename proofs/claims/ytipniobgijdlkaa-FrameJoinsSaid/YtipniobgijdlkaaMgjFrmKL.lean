/- The law FrameAcks, walked. -/
import Derived.Test.YtipniobgijdlkaaMgj14
import Derived.Test.YtipniobgijdlkaaMgjFrmAk
import Derived.Test.YtipniobgijdlkaaMgjFrmSR
import Derived.Test.YtipniobgijdlkaaMgjFrmW3
import Derived.Test.YtipniobgijdlkaaMgjLawN
import Derived.Test.YtipniobgijdlkaaMgj9
namespace Frm
open Go Go.RowKit Go.Rw Hdr
/-- An Ack under way: its row, and its ranges in a block of the call's own. -/
structure KS (w : World) (tr : TypeId) (vr : Value) (d : Nat) (rs : List (Nat × Nat)) (w' : World) : Prop where
  row : row? w' w.heap.size = some (fvA 2 0 d vr 0 0 false (.slice none 0 0) (.slice none 0 0) (.slice none 0 0))
  rs : w'.ownsRow (w.heap.size + 1) tr 2 vr rs.length (rcells rs)
  bel : Below w.heap.size w w'
theorem KS.size {w : World} {tr : TypeId} {vr : Value} {d : Nat} {rs : List (Nat × Nat)} {w' : World} (h : KS w tr vr d rs w') : w.heap.size + 1 ≤ w'.heap.size := row?_lt h.row
theorem KS.step {w : World} {tr : TypeId} {vr : Value} {d : Nat} {rs : List (Nat × Nat)} {w' w'' : World} (h : KS w tr vr d rs w') (hb : Below w'.heap.size w' w'') : KS w tr vr d rs w'' :=
  ⟨by rw [row?_below hb (row?_lt h.row)]; exact h.row, h.rs.kept (row := none) ⟨hb.os, hb.tape, hb.output, hb.size, fun k hk _ => hb.block k hk⟩ (by cases vr.ownBlock <;> simp), h.bel.trans (hb.mono h.bel.size)⟩
theorem KS.app {w : World} {tr : TypeId} {vr : Value} {d : Nat} {rs : List (Nat × Nat)} {w' w'' : World} (h : KS w tr vr d rs w') {v' : Value} {l' : List (Nat × Nat)} (g : w'.grownBy w'' vr.ownBlock) (ho : w''.ownsRow (w.heap.size + 1) tr 2 v' l'.length (rcells l')) :
    KS w tr v' d l' (w''.setCell ⟨w.heap.size, 3, none⟩ v') := by
  have hlow : ∀ k, vr.ownBlock = some k → w.heap.size + 1 ≤ k := fun k hk => (h.rs.lt k hk).1
  have rF : row? w'' w.heap.size = _ := row_grown g h.row (fun e => by have := hlow _ e.symm; omega)
  have hb : Below w.heap.size w w'' := h.bel.grown g h.bel.size (fun k hk => by have := hlow k hk; omega)
  exact ⟨by rw [row?_setCell_eq rF]; rfl, Mut.ownS ((Mut.refl w.heap.size w'').setCell _ _ _) ho (by omega), hb.setCell (by simp) _⟩
theorem KS.fv {w : World} {tr : TypeId} {vr : Value} {d : Nat} {rs : List (Nat × Nat)} {w' : World} (h : KS w tr vr d rs w') : Fv w' (.agg (fvA 2 0 d vr 0 0 false (.slice none 0 0) (.slice none 0 0) (.slice none 0 0))) (frK d rs) :=
  ⟨_, _, _, _, rfl, Own.sr h.rs, Sl.nil _, Sl.nil _, Sl.nil _⟩
theorem rcells_set (x : Nat) : ∀ (l : List (Nat × Nat)) (j : Nat), j < l.length → rcells (l.set j (rlo l j, x)) = (rcells l).set (j * 2 + 1) (.int .u64 (x : Nat)) := by
  intro l
  induction l with
  | nil => intro j hj; simp at hj
  | cons r l ih =>
    intro j hj
    cases j with
    | zero => simp [rcells, rlo]
    | succ j =>
      have h := ih j (by simpa using hj)
      have e2 : rlo (r :: l) (j + 1) = rlo l j := by simp [rlo]
      rw [e2, List.set_cons_succ, show (j + 1) * 2 + 1 = (j * 2 + 1) + 2 by omega]
      simp only [rcells, List.flatMap_cons, List.cons_append, List.nil_append, List.set_cons_succ] at h ⊢
      rw [h]
theorem KS.turn {w : World} {tr : TypeId} {a5 : Option Addr} {x5 d t k : Nat} {g : List UInt8} {w7 : World} (h : KS w tr (.slice a5 (aRs g t k).length x5) d (aRs g t k) w7) (hk : 1 ≤ k) :
    ∃ g5 cur, a5 = some ⟨g5, 0, none⟩ ∧ w.heap.size + 1 ≤ g5 ∧ k * 2 ≤ cur.size ∧ cur[1]? = some (.int .u64 (t : Nat)) ∧ row? w7.drew g5 = some cur ∧
      KS w tr (.slice a5 (aTurn g t k).length x5) d (aTurn g t k) ((w7.setCell ⟨g5, (k - 1) * 2 + 1, none⟩ (.int .u64 ((t : Int) + 1))).drew) := by
  have hl := aRs_length g t k
  rcases h.rs.2 with ⟨e, h0⟩ | ⟨g5, cap, cur, e, hb, hg, hnc, hcm, hcs, htake⟩
  · omega
  · injection e with e1 e2 e3
    subst e1 e3
    have hlt : g5 < w7.heap.size := by
      rcases Nat.lt_or_ge g5 w7.heap.size with h' | h'
      · exact h'
      · simp [Array.getElem?_eq_none h'] at hg
    have hget : ∀ j, j < k * 2 → cur[j]? = (rcells (aRs g t k))[j]? := fun j hj => by
      rw [← htake, List.getElem?_take, if_pos (by rw [hl]; exact hj), Array.getElem?_toList]
    have hsz : k * 2 ≤ cur.size := by rw [hcs]; exact Nat.mul_le_mul_right 2 (by omega)
    refine ⟨g5, cur, rfl, hb, hsz, ?_, (row?_drew _ _).trans (row?_of hg), ?_⟩
    · rw [hget 1 (by omega)]
      have := (rcells_get (aRs g t k) 0 (by omega)).2
      rw [show rhi (aRs g t k) 0 = t by unfold rhi; rw [aRs_get g t k 0 (by omega)]; rfl] at this
      exact this
    · have hs2 := heap_setCell_same w7 g5 ((k - 1) * 2 + 1) cur tr (.int .u64 ((t : Int) + 1)) hg
      have m : Mut g5 w7 (w7.setCell ⟨g5, (k - 1) * 2 + 1, none⟩ (.int .u64 ((t : Int) + 1))) := (Mut.refl _ _).setCell _ _ _
      have hr := m.row h.row (by omega)
      have tl := aTurn_length g t k
      have bel : Below w.heap.size w (w7.setCell ⟨g5, (k - 1) * 2 + 1, none⟩ (.int .u64 ((t : Int) + 1))) := h.bel.setCell (by simp; omega) _
      refine KS.step ⟨?_, ?_, bel⟩ ((Below.refl _ _).drew)
      · rw [hr, hl, tl]
      · refine ⟨by rw [rcells_len], .inr ⟨g5, x5, _, rfl, hb, hs2, by omega, hcm, by simp [hcs], ?_⟩⟩
        have hrc : rcells (aTurn g t k) = (rcells (aRs g t k)).set ((k - 1) * 2 + 1) (.int .u64 ((t + 1 : Nat) : Int)) := by
          have := rcells_set (t + 1) (aRs g t k) (k - 1) (by omega)
          rw [show rlo (aRs g t k) (k - 1) = aHi g t (k - 1) - n8 (nth g (2 * (k - 1))) by unfold rlo; rw [aRs_get g t k (k - 1) (by omega)]] at this
          exact this
        rw [hrc, ← htake, tl, hl, Array.toList_setIfInBounds, List.take_set]
        rfl
theorem frK_len (d : Nat) (rs : List (Nat × Nat)) (hd : d ≤ 4611686018427387903) (ho : rsOk rs = true) (h8 : rs.length ≤ 8) : (frK d rs).laid.length ≤ 200 := by
  unfold Fr.laid
  rw [if_pos (by rw [frK_may d rs hd]; exact ho)]
  unfold Fr.put frK
  rw [if_neg (by simp), if_pos rfl]
  have h1 := ackR_len rs (rs.length - 1)
  have h2 := vlen_le (rhi rs 0)
  have h3 := vlen_le d
  have h4 := vlen_le (rs.length - 1)
  have h5 := vlen_le (rhi rs 0 - rlo rs 0)
  simp only [List.length_append, ackB, vP_length, List.length_cons, List.length_nil]
  omega
end Frm
namespace Go.Proofs.Ytipniobgijdlkaa
open Go.RowKit Go.Rw Frm Hdr
theorem u64_ofInt_nat3 (x : Int) : (UInt64.ofInt x).toNat = (x % 18446744073709551616).toNat := by
  simp [UInt64.ofInt]
  omega
theorem and_62b (x : Int) : bits .and .u64 x 4611686018427387903 = x % 4611686018427387904 := by
  rw [bits_and64]
  have e : n64 (UInt64.ofInt x &&& UInt64.ofInt 4611686018427387903) = (x % 18446744073709551616).toNat &&& (2 ^ 62 - 1) := by
    show (UInt64.ofInt x &&& UInt64.ofInt 4611686018427387903).toNat = _
    rw [UInt64.toNat_and, u64_ofInt_nat3]; rfl
  rw [e, Nat.and_two_pow_sub_one_eq_mod]
  omega
theorem and_40 (x : Int) : bits .and .u64 x 1099511627775 = x % 1099511627776 := by
  rw [bits_and64]
  have e : n64 (UInt64.ofInt x &&& UInt64.ofInt 1099511627775) = (x % 18446744073709551616).toNat &&& (2 ^ 40 - 1) := by
    show (UInt64.ofInt x &&& UInt64.ofInt 1099511627775).toNat = _
    rw [UInt64.toNat_and, u64_ofInt_nat3]; rfl
  rw [e, Nat.and_two_pow_sub_one_eq_mod]
  omega
attribute [local go_sem high] and_62b and_40
attribute [local go_sem ↓] ldFF stFF alFF bdFQ
attribute [local go_sem] rldFF rstFF ralFF setRow_alloc_at setRow_alloc_past setRow_drew buildRg
theorem buildFK (d : Nat) (w : World) : (buildQ 28 #[(0, .int .i64 2), (2, .int .u64 (d : Nat))]).run Try.prog w = .ok (.agg (fvA 2 0 d (.slice none 0 0) 0 0 false (.slice none 0 0) (.slice none 0 0) (.slice none 0 0))) w := Go.run_build w _ _ _ (by kernel_rfl)
attribute [local go_sem] buildFK
set_option maxRecDepth 100000 in
set_option maxHeartbeats 4000000 in
theorem acksLaw_any (top delay : Nat) (g : List UInt8) (vg : Value) (w : World) (hs : Sl w vg g) :
    Calls Try.prog 9 #[.int .u64 (top : Nat), vg, .int .u64 (delay : Nat)] w fun e w' => e = .returned (.bool true) ∧ Below w.heap.size w w' := by
  obtain ⟨i0, hi0, hz0, hz1, hz2⟩ := info_parts infoRg
  obtain ⟨ag, cg, rfl, -, -, hp⟩ := id hs
  have HS := Lib.hid hs
  have HP := Lib.hid hp
  clear hs hp
  go_enter Try.func9, Try.ntmps9
  by_cases hlen : 2 ≤ g.length ∧ g.length ≤ 16
  case neg =>
    by_cases h2 : g.length < 2
    · have q : decide ((g.length : Int) < 2) = true := decide_eq_true (by omega)
      clear hlen h2
      go_wp2_with fail
      refine (fawake_any w).mono ?_
      rintro e w1 ⟨rfl, h⟩
      go_wp2_with fail
      go_ret
      exact ⟨rfl, h⟩
    · have q : decide ((g.length : Int) < 2) = false := decide_eq_false (by omega)
      have q2 : decide ((16 : Int) < (g.length : Int)) = true := decide_eq_true (by omega)
      clear hlen h2
      go_wp2_with fail
      refine (fawake_any w).mono ?_
      rintro e w1 ⟨rfl, h⟩
      go_wp2_with fail
      go_ret
      exact ⟨rfl, h⟩
  obtain ⟨b, o, rfl, hc⟩ := HP.out (by omega)
  have q : decide ((g.length : Int) < 2) = false := decide_eq_false (by omega)
  have q2 : decide ((16 : Int) < (g.length : Int)) = false := decide_eq_false (by omega)
  obtain ⟨t0, ht0, eT⟩ : ∃ t0 : Nat, t0 < 1099511627776 ∧ (top : Int) % 1099511627776 = t0 := ⟨top % 1099511627776, by omega, by omega⟩
  obtain ⟨t, hw, ht⟩ : ∃ t : Nat, IntKind.u64.wrap ((t0 : Int) + 10000) = t ∧ t = t0 + 10000 := ⟨t0 + 10000, (IntWalk.u64_in _ (by omega)).trans (by omega), rfl⟩
  obtain ⟨d, hd, eD⟩ : ∃ d : Nat, d < 4611686018427387904 ∧ (delay : Int) % 4611686018427387904 = d := ⟨delay % 4611686018427387904, by omega, by omega⟩
  have HT := Lib.hid (And.intro ht0 ht)
  have HD := Lib.hid hd
  have HL := Lib.hid hlen
  have HC := Lib.hid hc
  clear ht0 ht hd hlen hc HP
  go_wp2_with fail
  go_loopw [7, 9, 10] (fun v7 v9 _ wr => ∃ (k : Nat) (vr : Value), 2 * k ≤ g.length ∧ v7 = .int .u64 (aHi g t k : Nat) ∧ v9 = .int .i64 ((2 * k : Nat) : Nat) ∧ KS w 58 vr d (aRs g t k) wr) (fun _ v9 _ _ => g.length + 2 - (intOf v9).toNat)
  case atStart =>
    refine ⟨0, .slice none 0 0, by omega, by first | rfl | rw [hw]; rfl, rfl, ?_⟩
    exact ⟨row?_alloc_at _ _ _ _ rfl, World.ownsRow_nil _ _ _ _, (Below.refl _ _).alloc (Nat.le_refl _) _⟩
  case round =>
    obtain ⟨k, vr, hk, rfl, rfl, hks⟩ := hrel
    obtain ⟨i, hi⟩ : ∃ i, 2 * k = i := ⟨_, rfl⟩
    rw [hi] at hk ⊢
    have KS0 := Lib.hid hks
    have HI := Lib.hid hi
    clear hks hi
    by_cases hlt : i + 1 < g.length
    · have p : decide (i + 1 < g.length) = true := decide_eq_true hlt
      obtain ⟨i1, j1, j2⟩ : ∃ i1 : Nat, wrap64 ((i : Int) + 1) = i1 ∧ i1 = i + 1 := ⟨i + 1, (IntWalk.wrap64_in _ (by have := HL.out; omega)).trans (by omega), rfl⟩
      have p1 : decide (i1 < g.length) = true := decide_eq_true (by omega)
      have hi1 : i1 < g.length := by omega
      have hi0' : i < g.length := by omega
      have c1 := below_cell KS0.out.bel (HC.out i hi0') (cell_lt (HC.out i hi0'))
      have c2 := below_cell KS0.out.bel (HC.out i1 hi1) (cell_lt (HC.out i1 hi1))
      obtain ⟨x1, hx1⟩ : ∃ x, n8 (nth g i) = x := ⟨_, rfl⟩
      obtain ⟨x2, hx2⟩ : ∃ x, n8 (nth g i1) = x := ⟨_, rfl⟩
      have x1l : x1 < 256 := by rw [← hx1]; exact n8_lt _
      have x2l : x2 < 256 := by rw [← hx2]; exact n8_lt _
      have d2 := HC.out i1 hi1
      rw [hx1] at c1
      rw [hx2] at c2 d2
      have D2 := Lib.hid d2
      clear d2
      obtain ⟨a, ha⟩ : ∃ a, aHi g t k = a := ⟨_, rfl⟩
      have hal : a ≤ t := by rw [← ha]; exact aHi_le g t k
      have hag : t ≤ a + 512 * k := by rw [← ha]; exact aHi_ge g t (by have := HT.out; omega) k (by have := HL.out; have := HI.out; omega)
      have k8 : k ≤ 7 := by have := HL.out; have := HI.out; omega
      have t1 := HT.out
      obtain ⟨lo, e1, f1⟩ : ∃ lo : Nat, IntKind.u64.wrap ((a : Int) - x1) = lo ∧ lo = a - x1 := ⟨a - x1, (IntWalk.u64_in _ (by omega)).trans (by omega), rfl⟩
      obtain ⟨y, e2, f2⟩ : ∃ y : Nat, IntKind.u64.wrap ((lo : Int) - 2) = y ∧ y = lo - 2 := ⟨lo - 2, (IntWalk.u64_in _ (by omega)).trans (by omega), rfl⟩
      obtain ⟨z, e3, f3⟩ : ∃ z : Nat, IntKind.u64.wrap ((y : Int) - x2) = z ∧ z = y - x2 := ⟨y - x2, (IntWalk.u64_in _ (by omega)).trans (by omega), rfl⟩
      have u1 : IntKind.u64.wrap (x1 : Int) = x1 := IntWalk.u64_in _ (by omega)
      have u2 : IntKind.u64.wrap (x2 : Int) = x2 := IntWalk.u64_in _ (by omega)
      obtain ⟨i2, j3, j4⟩ : ∃ i2 : Nat, wrap64 ((i : Int) + 2) = i2 ∧ i2 = i + 2 := ⟨i + 2, (IntWalk.wrap64_in _ (by have := HL.out; omega)).trans (by omega), rfl⟩
      have eN : aHi g t (k + 1) = z := by simp only [aHi]; rw [ha, HI.out, show i + 1 = i1 by omega, hx1, hx2]; omega
      have eR : aRs g t (k + 1) = aRs g t k ++ [(lo, a)] := by rw [aRs_succ, ha, HI.out, hx1, f1]
      obtain ⟨R, hR⟩ : ∃ R, aRs g t k = R := ⟨_, rfl⟩
      have hRl : R.length = k := by rw [← hR, aRs_length]
      rw [hR] at eR
      have kk := KS0.out
      rw [hR] at kk
      rw [ha]
      obtain ⟨ar, er, rfl, -, -, -⟩ := id (Own.sr kk.rs)
      have c3 : wr.cell? ⟨w.heap.size, 3, none⟩ = some (.slice ar R.length er) := row?_cell kk.row 3
      have ff := row?_frozen kk.row
      have HK := Lib.hid kk
      have HE := Lib.hid (And.intro eN (And.intro eR (And.intro j2 (And.intro j4 (And.intro k8 hRl)))))
      clear kk KS0 hal hag t1 f1 f2 f3 x1l x2l hx1 hx2 eN eR j2 j4 k8 hRl ha hR hlt
      go_wp2_with (at_builtin; refine wpList_append_own _ rfl _ _ 26 rfl (w.heap.size + 1) 58 i0 (.agg #[.int .u64 0, .int .u64 0]) 2 16 Try.underlying26 hi0 hz0 hz1 hz2 rfl (by decide) _ R.length _ rfl (HK.out.rs.alloc _) ⟨_, 0, none⟩ 1 1 [.int .u64 (lo : Nat), .int .u64 (a : Nat)] rfl rfl ?c1X ?c2X ?c3X ?c4X ?c5X ?_)
      case c1X =>
        intro j u hj
        rw [Addr.add_lit, row?_cell (row?_alloc_at _ _ _ _ rfl)]
        match j, hj with
        | 0, hj => simp at hj; subst hj; rfl
        | 1, hj => simp at hj; subst hj; rfl
      case c2X =>
        intro u hu
        simp only [List.mem_cons, List.not_mem_nil, or_false] at hu
        rcases hu with rfl | rfl <;> rfl
      case c3X => have := HE.out; unfold maxLen; omega
      case c4X => have := HE.out; omega
      case c5X => have := HK.out.size; simp; omega
      intro v7 w7 o7 g7 _
      obtain ⟨R2, hR2⟩ : ∃ R2, R ++ [(lo, a)] = R2 := ⟨_, rfl⟩
      have o7' : w7.ownsRow (w.heap.size + 1) 58 2 v7 R2.length (rcells R2) := by rw [← hR2, List.length_append, rcells_app]; exact o7
      have hbA := (Below.refl wr.heap.size wr).alloc (Nat.le_refl _) (.cells #[.int .u64 (lo : Nat), .int .u64 (a : Nat)] 58)
      have k7 := HK.out.step hbA
      have rF7 := row_grown g7 k7.row (fun e => by have := (k7.rs.lt _ e.symm).1; omega)
      have c3' : w7.cell? ⟨w.heap.size, 3, none⟩ = some (.slice ar R.length er) := row?_cell rF7 3
      have ff' := row?_frozen rF7
      have k8 := k7.app g7 o7'
      obtain ⟨a7, x7, rfl, -, -, -⟩ := id (Own.sr o7')
      have c2' := below_cell k8.bel D2.out (cell_lt D2.out)
      have K8 := Lib.hid k8
      have HR2 := Lib.hid hR2
      clear o7 o7' g7 hbA k7 rF7 k8 c3 ff HK hR2 D2 c1 c2
      go_wp2_with fail
      go_roundw
      case rel => exact ⟨k + 1, _, by have := HE.out; have := HI.out; omega, by have h := HE.out.1; rw [h], by have := HE.out; have := HI.out; rw [show 2 * (k + 1) = i2 by omega, j3],  by rw [HE.out.2.1, HR2.out]; exact K8.out⟩
      case measure => rw [j3]; have := HE.out; simp [intOf]; omega
    · have p : decide (i + 1 < g.length) = false := decide_eq_false hlt
      have k1 : 1 ≤ k := by have := HL.out; have := HI.out; omega
      have k8 : k ≤ 8 := by have := HL.out; have := HI.out; omega
      obtain ⟨i1, j1, j2⟩ : ∃ i1 : Nat, wrap64 ((i : Int) + 1) = i1 ∧ i1 = i + 1 := ⟨i + 1, (IntWalk.wrap64_in _ (by have := HL.out; omega)).trans (by omega), rfl⟩
      have p1 : decide (i1 < g.length) = false := decide_eq_false (by omega)
      have hok := aRs_ok g t k (by have := HT.out; omega) (by have := HT.out; omega) k1 k8
      have hRl : (aRs g t k).length = k := aRs_length g t k
      have hfit := fits_K d (aRs g t k) (by omega)
      have hget := frK_get d (aRs g t k) (by have := HD.out; omega) hok
      have hlen := frK_len d (aRs g t k) (by have := HD.out; omega) hok (by omega)
      have hmay := (frK_may d (aRs g t k) (by have := HD.out; omega)).trans hok
      obtain ⟨F, hF⟩ : ∃ F, fvA 2 0 d vr 0 0 false (.slice none 0 0) (.slice none 0 0) (.slice none 0 0) = F := ⟨_, rfl⟩
      have hz : F.size = 10 := by rw [← hF]; rfl
      have row := KS0.out.row
      have fv := KS0.out.fv
      rw [hF] at row fv
      have lf := rldFF wr w.heap.size (by rw [row, Option.map_some, hz])
      rw [row, Option.getD_some] at lf
      obtain ⟨L, hL⟩ : ∃ L, (frK d (aRs g t k)).laid = L := ⟨_, rfl⟩
      have hput := fput_fr (frK d (aRs g t k)) hfit (.agg F) wr fv
      rw [hL] at hput hget hlen
      have HP := Lib.hid hput
      have HG := Lib.hid hget
      have HLn := Lib.hid hlen
      have HMy := Lib.hid hmay
      have HK := Lib.hid (And.intro k1 (And.intro k8 hRl))
      have HFF := Lib.hid hF
      have HFit := Lib.hid hfit
      clear k1 k8 j2 hok hRl hfit hget hlen hmay hF row fv hL hput hlt
      go_wp2_with fail
      refine HP.out.mono ?_
      rintro e w3 ⟨v3, rfl, o3, b3⟩
      have K3 := Lib.hid (KS0.out.step b3)
      have s3 := Own.sl o3
      obtain ⟨a3, x3, rfl, -, -, -⟩ := id s3
      have hg3 := fget_any L (by have := HLn.out; omega) _ w3 s3
      rw [HG.out] at hg3
      have HG3 := Lib.hid hg3
      clear lf KS0 HP o3 b3 s3 hg3
      go_wp2_with fail
      refine HG3.out.mono ?_
      rintro e w4 ⟨v4, rfl, o4, b4⟩
      have K4 := Lib.hid (K3.out.step b4)
      obtain ⟨G, rfl, fva⟩ := o4.fva (g := none) (fun k hk => by cases hk)
      have hG := fva.size.1
      have hG1 := fva.size.2
      have FV := Lib.hid fva
      clear HG3 K3 o4 b4 fva
      simp only []
      obtain ⟨vr', g2, g3, sr'⟩ : ∃ vr', G[2]? = some (.int .u64 (d : Nat)) ∧ G[3]? = some vr' ∧ Sr w4 vr' (aRs g t k) := by
        obtain ⟨r1, _, _, _, e, ⟨h1, _⟩, _⟩ := FV.out
        exact ⟨r1, by rw [e]; rfl, by rw [e]; rfl, h1⟩
      obtain ⟨a4, x4, rfl, -, -, -⟩ := id sr'
      obtain ⟨a5, x5, rfl, -, -, -⟩ := id (Own.sr K4.out.rs)
      obtain ⟨RR, hRR⟩ : ∃ RR, aRs g t k = RR := ⟨_, rfl⟩
      have hbA := (Below.refl w4.heap.size w4).alloc (Nat.le_refl _) (.cells G 28)
      have k5 := K4.out.step hbA
      have cF2 : (w4.alloc (.cells G 28)).cell? ⟨w.heap.size, 2, none⟩ = some (.int .u64 (d : Nat)) := row?_cell k5.row 2
      have cF3 : (w4.alloc (.cells G 28)).cell? ⟨w.heap.size, 3, none⟩ = some (.slice a5 (aRs g t k).length x5) := row?_cell k5.row 3
      have cG2 : (w4.alloc (.cells G 28)).cell? ⟨w4.heap.size, 2, none⟩ = some (.int .u64 (d : Nat)) := (row?_cell (row?_alloc_at _ _ _ _ rfl) 2).trans g2
      have cG3 : (w4.alloc (.cells G 28)).cell? ⟨w4.heap.size, 3, none⟩ = some (.slice a4 (aRs g t k).length x4) := (row?_cell (row?_alloc_at _ _ _ _ rfl) 3).trans g3
      have SR := Lib.hid (sr'.below hbA)
      have K5 := Lib.hid k5
      clear K4 k5 hbA sr' g2 g3 FV
      go_wp2_with fail
      subst hRR
      have hsr := sameRanges_any (aRs g t k) (aRs g t k) (by have := HK.out; omega) _ _ (w4.alloc (.cells G 28)) SR.out (Own.sr K5.out.rs)
      rw [decide_eq_true rfl] at hsr
      refine hsr.mono ?_
      rintro e w6 ⟨rfl, b6⟩
      have k6 := K5.out.step b6
      have row := k6.row
      have fv := k6.fv
      rw [HFF.out] at row fv
      have lf := rldFF w6 w.heap.size (by rw [row, Option.map_some, hz])
      rw [row, Option.getD_some] at lf
      have hm6 := fmay_fr _ HFit.out (.agg F) w6 fv
      rw [HMy.out] at hm6
      have HM6 := Lib.hid hm6
      have K6 := Lib.hid k6
      clear hsr SR K5 b6 k6 row fv hm6 cF2 cF3 cG2 cG3
      go_wp2_with fail
      refine HM6.out.mono ?_
      rintro e w7 ⟨rfl, b7⟩
      have K7 := Lib.hid (K6.out.step b7)
      clear HM6 K6 b7 lf
      have bD : Below w7.heap.size w7 w7.drew := (Below.refl _ _).drew
      have k8 := K7.out.step bD
      have cF3 : w7.drew.cell? ⟨w.heap.size, 3, none⟩ = some (.slice a5 (aRs g t k).length x5) := row?_cell k8.row 3
      obtain ⟨g5, cur, ha5, hg5, hcz, c01, hrow, hset⟩ : ∃ g5 cur, a5 = some ⟨g5, 0, none⟩ ∧ w.heap.size + 1 ≤ g5 ∧ k * 2 ≤ cur.size ∧ cur[1]? = some (.int .u64 (t : Nat)) ∧ row? w7.drew g5 = some cur ∧
          KS w 58 (.slice a5 (aTurn g t k).length x5) d (aTurn g t k) ((w7.setCell ⟨g5, (k - 1) * 2 + 1, none⟩ (.int .u64 ((t : Int) + 1))).drew) := K7.out.turn (by have := HK.out; omega)
      subst ha5
      have K8 := Lib.hid k8
      have HS2 := Lib.hid hset
      have c1 : w7.drew.cell? ⟨g5, 1, none⟩ = some (.int .u64 (t : Nat)) := (row?_cell hrow 1).trans c01
      have ff5 := row?_frozen hrow ((k - 1) * 2 + 1)
      obtain ⟨u5, cu5⟩ : ∃ u, w7.drew.cell? ⟨g5, (k - 1) * 2 + 1, none⟩ = some u := ⟨_, (row?_cell hrow _).trans (Array.getElem?_eq_getElem (show (k - 1) * 2 + 1 < cur.size by have := HK.out; omega))⟩
      clear k8 hset bD K7 c01
      have hkL := (HK.out).2.2
      have e1 : wrap64 ((k : Int) - 1) = ((k - 1 : Nat) : Int) := (IntWalk.wrap64_in _ (by have := HK.out; omega)).trans (by have := HK.out; omega)
      have e2 : IntKind.u64.wrap ((t : Int) + 1) = ((t + 1 : Nat) : Int) := (IntWalk.u64_in _ (by have := HT.out; omega)).trans (by omega)
      have l1 : k - 1 < k := by have := HK.out; omega
      have l0 : 0 < k := by have := HK.out; omega
      go_wp2_with fail
      refine Rg.wp_region_plan (Rg.row [(0, 3), (1, 0), (2, 3), (3, 0), (4, 0), (5, 3), (6, 3), (7, 0), (8, 3), (9, 3), (10, 0), (11, 3), (12, 3), (13, 3)] [14]) [14] (by kernel_rfl) (by kernel_rfl) ?_
      simp only [Rg.row, Rg.PT.map, List.map_cons, List.map_nil, List.getD_cons_zero, List.getD_cons_succ]
      go_wp2_with (first
        | ((with_reducible refine Rg.plan_pure ?_ ?_ ?_); kernel_rfl; kernel_rfl; intro _ _)
        | ((with_reducible refine Rg.plan_take ?_ ?_ ?_); kernel_rfl; kernel_rfl; intro _ _)
        | ((with_reducible refine Rg.plan_keep ?_ ?_); kernel_rfl; intro K hK)
        | (refine hK _ _ (Rg.Keep.refl _) ?_; clear hK)
        | (refine hK _ _ (Rg.Keep.of_below (by assumption)) ?_; clear hK)
        | ((with_reducible refine Rg.plan_skip ?_ ?_); kernel_rfl)
        | (with_reducible refine Rg.plan_done ?_)
        | (with_reducible refine Rg.calm_normal ?_))
      obtain ⟨w9, hw9⟩ : ∃ w9, (w7.setCell ⟨g5, (k - 1) * 2 + 1, none⟩ (.int .u64 ((t : Int) + 1))).drew = w9 := ⟨_, rfl⟩
      have k9 := HS2.out
      rw [hw9] at k9 ⊢
      have tl := aTurn_length g t k
      have bD : Below w9.heap.size w9 w9.drew := (Below.refl _ _).drew
      have k10 := k9.step bD
      obtain ⟨F9, hF9⟩ : ∃ F, fvA 2 0 d (.slice (some ⟨g5, 0, none⟩) (aTurn g t k).length x5) 0 0 false (.slice none 0 0) (.slice none 0 0) (.slice none 0 0) = F := ⟨_, rfl⟩
      have hz9 : F9.size = 10 := by rw [← hF9]; rfl
      have row := k10.row
      have fv := k10.fv
      have cF3 : w9.drew.cell? ⟨w.heap.size, 3, none⟩ = some (.slice (some ⟨g5, 0, none⟩) (aTurn g t k).length x5) := row?_cell row 3
      rw [hF9] at row fv
      have lf := rldFF w9.drew w.heap.size (by rw [row, Option.map_some, hz9])
      rw [row, Option.getD_some] at lf
      have hmB := fmay_fr (frK d (aTurn g t k)) (fits_K d (aTurn g t k) (by have := HK.out; omega)) (.agg F9) w9.drew fv
      have sr9 := Own.sr k10.rs
      have K10 := Lib.hid k10
      clear c1 ff5 cu5 hrow k9 hw9 HS2 K8 k10 bD row fv hF9
      by_cases hk1 : k = 1
      · have hok : rsOk (aTurn g t k) = true := by rw [hk1]; exact aTurn_one g t (by have := HT.out; omega) (by have := HT.out; omega)
        rw [frK_may d _ (by have := HD.out; omega), hok] at hmB
        have hmB := Lib.hid hmB
        have cH : w9.drew.cell? ⟨g5, 1, none⟩ = some (.int .u64 ((t : Int) + 1)) := by
          obtain ⟨_, _, e, _, _, hp⟩ := sr9
          obtain ⟨b1, o1, e1, hc⟩ := hp (by omega)
          injection e with e0
          subst e0
          injection e1 with e1
          injection e1 with e2 e3
          subst e2 e3
          have := (hc 0 (by omega)).2
          rw [show rhi (aTurn g t k) 0 = t + 1 by rw [hk1]; simp [aTurn, aRs, rhi]] at this
          simpa using this
        have q1 : decide ((1 : Int) < (k : Nat)) = false := decide_eq_false (by omega)
        have q3 : decide ((4611686018427387903 : Int) < (t : Int) + 1) = false := decide_eq_false (by have := HT.out; omega)
        have q4 : 0 < k := by omega
        have HK1 := Lib.hid hk1
        clear sr9 hok hk1
        go_wp2_with fail
        refine Rg.wp_region_plan (Rg.row [(0, 0), (3, 3), (4, 0), (5, 0), (6, 3), (1, 1), (2, 3), (7, 3), (8, 3), (9, 0), (10, 3), (11, 3), (12, 0), (13, 3), (14, 3), (15, 3), (16, 3), (17, 1), (18, 3), (19, 3)] []) [] (by kernel_rfl) (by kernel_rfl) ?_
        simp only [Rg.row, Rg.PT.map, List.map_nil, List.getD_cons_zero, List.getD_cons_succ]
        go_wp2_with (first
          | ((with_reducible refine Rg.plan_pure ?_ ?_ ?_); kernel_rfl; kernel_rfl; intro _ _)
          | ((with_reducible refine Rg.plan_take ?_ ?_ ?_); kernel_rfl; kernel_rfl; intro _ _)
          | ((with_reducible refine Rg.plan_keep ?_ ?_); kernel_rfl; intro K hK)
          | (refine hK _ _ (Rg.Keep.refl _) ?_; clear hK)
          | (refine hK _ _ (Rg.Keep.of_below (by assumption)) ?_; clear hK)
          | ((with_reducible refine Rg.plan_skip ?_ ?_); kernel_rfl)
          | (with_reducible refine Rg.plan_done ?_)
          | (with_reducible refine Rg.calm_normal ?_))
        refine hmB.out.mono ?_
        rintro e wA ⟨rfl, bA⟩
        refine hK _ _ (Rg.Keep.of_below bA) ?_
        have BA := Lib.hid (K10.out.bel.trans (bA.mono K10.out.bel.size))
        have cA := below_cell bA cF3 (cell_lt cF3)
        have dA := below_cell bA cH (cell_lt cH)
        clear hK bA lf hmB K10 cF3
        go_wp2_with (first
          | ((with_reducible refine Rg.plan_pure ?_ ?_ ?_); kernel_rfl; kernel_rfl; intro _ _)
          | ((with_reducible refine Rg.plan_take ?_ ?_ ?_); kernel_rfl; kernel_rfl; intro _ _)
          | ((with_reducible refine Rg.plan_keep ?_ ?_); kernel_rfl; intro K hK)
          | (refine hK _ _ (Rg.Keep.refl _) ?_; clear hK)
          | (refine hK _ _ (Rg.Keep.of_below (by assumption)) ?_; clear hK)
          | ((with_reducible refine Rg.plan_skip ?_ ?_); kernel_rfl)
          | (with_reducible refine Rg.plan_done ?_)
          | (with_reducible refine Rg.calm_normal ?_))
        refine (fawake_any wA).mono ?_
        rintro e wB ⟨rfl, bB⟩
        refine hK _ _ (Rg.Keep.of_below bB) ?_
        have BB := Lib.hid (BA.out.trans (bB.mono BA.out.size))
        have cB := below_cell bB cA (cell_lt cA)
        have dB := below_cell bB dA (cell_lt dA)
        clear hK bB cA BA
        go_wp2_with (first
          | ((with_reducible refine Rg.plan_pure ?_ ?_ ?_); kernel_rfl; kernel_rfl; intro _ _)
          | ((with_reducible refine Rg.plan_take ?_ ?_ ?_); kernel_rfl; kernel_rfl; intro _ _)
          | ((with_reducible refine Rg.plan_keep ?_ ?_); kernel_rfl; intro K hK)
          | (refine hK _ _ (Rg.Keep.refl _) ?_; clear hK)
          | (refine hK _ _ (Rg.Keep.of_below (by assumption)) ?_; clear hK)
          | ((with_reducible refine Rg.plan_skip ?_ ?_); kernel_rfl)
          | (with_reducible refine Rg.plan_done ?_)
          | (with_reducible refine Rg.calm_normal ?_))
        go_ret
        exact ⟨rfl, BB.out⟩
      · have hok : rsOk (aTurn g t k) = false := aTurn_more g t k (by have := HK.out; omega)
        rw [frK_may d _ (by have := HD.out; omega), hok] at hmB
        have hmB := Lib.hid hmB
        have q1 : decide ((1 : Int) < (k : Nat)) = true := decide_eq_true (by have := HK.out; omega)
        have HK1 := Lib.hid hk1
        clear sr9 hok hk1
        go_wp2_with fail
        refine Rg.wp_region_plan (Rg.row [(0, 0), (3, 3), (4, 0), (5, 0), (6, 3), (1, 1), (2, 3), (7, 3), (8, 3), (9, 0), (10, 3), (11, 3), (12, 0), (13, 3), (14, 3), (15, 3), (16, 3), (17, 1), (18, 3), (19, 3)] []) [] (by kernel_rfl) (by kernel_rfl) ?_
        simp only [Rg.row, Rg.PT.map, List.map_nil, List.getD_cons_zero, List.getD_cons_succ]
        go_wp2_with (first
          | ((with_reducible refine Rg.plan_skipB 7 false rfl ?_ ?_); kernel_rfl)
          | ((with_reducible refine Rg.plan_pure ?_ ?_ ?_); kernel_rfl; kernel_rfl; intro _ _)
          | ((with_reducible refine Rg.plan_take ?_ ?_ ?_); kernel_rfl; kernel_rfl; intro _ _)
          | ((with_reducible refine Rg.plan_keep ?_ ?_); kernel_rfl; intro K hK)
          | (refine hK _ _ (Rg.Keep.refl _) ?_; clear hK)
          | (refine hK _ _ (Rg.Keep.of_below (by assumption)) ?_; clear hK)
          | ((with_reducible refine Rg.plan_skip ?_ ?_); kernel_rfl)
          | (with_reducible refine Rg.plan_done ?_)
          | (with_reducible refine Rg.calm_normal ?_))
        refine hmB.out.mono ?_
        rintro e wA ⟨rfl, bA⟩
        refine hK _ _ (Rg.Keep.of_below bA) ?_
        have BA := Lib.hid (K10.out.bel.trans (bA.mono K10.out.bel.size))
        have cA := below_cell bA cF3 (cell_lt cF3)
        clear hK bA lf hmB K10 cF3
        go_wp2_with (first
          | ((with_reducible refine Rg.plan_skipB 7 false rfl ?_ ?_); kernel_rfl)
          | ((with_reducible refine Rg.plan_pure ?_ ?_ ?_); kernel_rfl; kernel_rfl; intro _ _)
          | ((with_reducible refine Rg.plan_take ?_ ?_ ?_); kernel_rfl; kernel_rfl; intro _ _)
          | ((with_reducible refine Rg.plan_keep ?_ ?_); kernel_rfl; intro K hK)
          | (refine hK _ _ (Rg.Keep.refl _) ?_; clear hK)
          | (refine hK _ _ (Rg.Keep.of_below (by assumption)) ?_; clear hK)
          | ((with_reducible refine Rg.plan_skip ?_ ?_); kernel_rfl)
          | (with_reducible refine Rg.plan_done ?_)
          | (with_reducible refine Rg.calm_normal ?_))
        refine (fawake_any wA).mono ?_
        rintro e wB ⟨rfl, bB⟩
        refine hK _ _ (Rg.Keep.of_below bB) ?_
        have BB := Lib.hid (BA.out.trans (bB.mono BA.out.size))
        have cB := below_cell bB cA (cell_lt cA)
        clear hK bB cA BA
        go_wp2_with (first
          | ((with_reducible refine Rg.plan_skipB 7 false rfl ?_ ?_); kernel_rfl)
          | ((with_reducible refine Rg.plan_pure ?_ ?_ ?_); kernel_rfl; kernel_rfl; intro _ _)
          | ((with_reducible refine Rg.plan_take ?_ ?_ ?_); kernel_rfl; kernel_rfl; intro _ _)
          | ((with_reducible refine Rg.plan_keep ?_ ?_); kernel_rfl; intro K hK)
          | (refine hK _ _ (Rg.Keep.refl _) ?_; clear hK)
          | (refine hK _ _ (Rg.Keep.of_below (by assumption)) ?_; clear hK)
          | ((with_reducible refine Rg.plan_skip ?_ ?_); kernel_rfl)
          | (with_reducible refine Rg.plan_done ?_)
          | (with_reducible refine Rg.calm_normal ?_))
        go_ret
        exact ⟨rfl, BB.out⟩
end Go.Proofs.Ytipniobgijdlkaa
