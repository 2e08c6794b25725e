/- An element of a slice of frames that a call made; Eliciting; what every program answers that is one. -/
import Derived.Test.YtipniobgijdlkaaMgr11
import Derived.Test.YtipniobgijdlkaaMgr13
import Derived.Test.YtipniobgijdlkaaMgrFrmS1
namespace Frm
open Go Go.RowKit Go.Rw Hdr
theorem flat_get (As : List (Array Value)) : ∀ (k : Nat), k < As.length → (∀ q, q < As.length → (As.getD q #[]).size = 10) → ∀ j, j < 10 → (As.flatMap Array.toList)[k * 10 + j]? = (As.getD k #[])[j]? := by
  induction As with
  | nil => intro k hk; simp at hk
  | cons A As ih =>
    intro k hk hs j hj
    have hA : A.size = 10 := hs 0 (by simp)
    rw [List.flatMap_cons]
    cases k with
    | zero =>
      rw [Nat.zero_mul, Nat.zero_add, List.getElem?_append_left (by rw [Array.length_toList, hA]; exact hj), Array.getElem?_toList]
      rfl
    | succ k =>
      rw [List.getElem?_append_right (by rw [Array.length_toList, hA]; omega), Array.length_toList, hA]
      have := ih k (by simpa using hk) (fun q hq => by have := hs (q + 1) (by simpa using hq); simpa using this) j hj
      rw [show (k + 1) * 10 + j - 10 = k * 10 + j by omega, this]
      simp [List.getD]
/-- An element of a slice of frames that the call made. -/
theorem OwnFs.get {w : World} {N : Nat} {tF : TypeId} {v : Value} {fs : List Fr} (h : OwnFs w N tF v fs) (k : Nat) (hk : k < fs.length) :
    ∃ g cap A, v = .slice (some ⟨g, 0, none⟩) fs.length cap ∧ FvA w v.ownBlock A (fs.getD k fr0) ∧ A.size = 10 ∧ ∀ j, j < 10 → w.cell? ⟨g, k * 10 + j, none⟩ = A[j]? := by
  obtain ⟨As, hl, ho, hf⟩ := h
  have hsz : ∀ q, q < As.length → (As.getD q #[]).size = 10 := fun q hq => (hf q (by omega)).size.1
  rcases ho.2 with ⟨rfl, h0⟩ | ⟨g, cap, cur, rfl, hb, hg, hnc, hcm, hcs, htake⟩
  · omega
  · refine ⟨g, cap, _, rfl, hf k hk, (hf k hk).size.1, fun j hj => ?_⟩
    rw [cell_of_row w g _ cur _ (0, 0) hg, ← flat_get As k (by omega) hsz j hj, ← htake, List.getElem?_take, if_pos (by omega), Array.getElem?_toList]
theorem load_ten {P : Program} {t : Nat} (A0 : Agg P t 10) (w : World) (b o : Nat) (A : Array Value) (hA : A.size = 10) (hc : ∀ j, j < 10 → w.cell? ⟨b, o + j, none⟩ = A[j]?) :
    (loadAgg t (.pointer (some ⟨b, o, none⟩))).run P w = .ok (.agg A) w := by
  obtain ⟨d, hu, hd⟩ := A0.und
  have := run_loadAt_mid (P := P) w b o t A.toList d (fun j v hv => by
    have hj : j < 10 := by have := (List.getElem?_eq_some_iff.1 hv).1; simpa [hA] using this
    rw [hc j hj, ← Array.getElem?_toList]; exact hv) hu hd (by rw [A0.size]; simp [hA])
  rw [Array.toArray_toList] at this
  exact this
/-- The frame that awake lays. -/
def frA : Fr := ⟨8, 0, 0, [], 2, 70, true, [97, 98], [], []⟩
def frZ2 : Fr := ⟨0, 2, 0, [], 0, 0, false, [], [], []⟩
def frP : Fr := ⟨1, 0, 0, [], 0, 0, false, [], [], []⟩
/-- Two frames in rows of the call's own. -/
structure AS (w : World) (b1 : Nat) (F : Array Value) (b2 : Nat) (G : Array Value) (w' : World) : Prop where
  r1 : row? w' b1 = some F
  r2 : row? w' b2 = some G
  f1 : Fv w' (.agg F) frA
  f2 : Fv w' (.agg G) frA
  bel : Below w.heap.size w w'
theorem AS.step {w : World} {b1 b2 : Nat} {F G : Array Value} {w' w'' : World} (h : AS w b1 F b2 G w') (hb : Below w'.heap.size w' w'') : AS w b1 F b2 G w'' :=
  ⟨by rw [row?_below hb (row?_lt h.r1)]; exact h.r1, by rw [row?_below hb (row?_lt h.r2)]; exact h.r2, h.f1.below hb, h.f2.below hb, h.bel.trans (hb.mono h.bel.size)⟩
theorem AS.alloc {w : World} {b1 b2 : Nat} {F G : Array Value} {w' : World} (h : AS w b1 F b2 G w') (A : Array Value) (t : TypeId) : AS w b1 F b2 G (w'.alloc (.cells A t)) :=
  h.step ((Below.refl _ _).alloc (Nat.le_refl _) _)
/-- Two frames in rows of the call's own, and a third in a slice. -/
structure BS (w : World) (b1 : Nat) (F : Array Value) (b2 : Nat) (G : Array Value) (g : Nat) (A : Array Value) (w' : World) : Prop where
  pr : AS w b1 F b2 G w'
  fz : Fv w' (.agg A) frZ2
  hA : A.size = 10
  cz : ∀ j, j < 10 → w'.cell? ⟨g, 0 + j, none⟩ = A[j]?
theorem BS.step {w : World} {b1 b2 g : Nat} {F G A : Array Value} {w' w'' : World} (h : BS w b1 F b2 G g A w') (hb : Below w'.heap.size w' w'') : BS w b1 F b2 G g A w'' :=
  ⟨h.pr.step hb, h.fz.below hb, h.hA, fun j hj => by
    have h0 := h.cz j hj
    obtain ⟨v, hv⟩ : ∃ v, A[j]? = some v := ⟨A[j]'(by rw [h.hA]; exact hj), Array.getElem?_eq_getElem _⟩
    rw [hv] at h0 ⊢
    exact below_cell hb h0 (cell_lt h0)⟩
def elicits (k : Int) : Bool := decide (k ≠ 0) && decide (k ≠ 2) && decide (k ≠ 28)
end Frm
namespace Go.Proofs.Ytipniobgijdlkaa
open Go.RowKit Go.Rw Frm Hdr
attribute [local go_sem ↓] ldFF stFF alFF
attribute [local go_sem] rldFF rstFF ralFF setRow_alloc_at setRow_alloc_past setRow_drew
set_option maxHeartbeats 1000000 in
theorem feli_fr (f : Fr) (v : Value) (w : World) (hv : Fv w v f) :
    Calls Try.prog 31 #[v] w fun e w' => e = .returned (.bool (elicits f.k)) ∧ Below w.heap.size w w' := by
  obtain ⟨vr, vd, vc, vt, rfl, -⟩ := hv
  have B1 := Lib.hid (((Below.refl w.heap.size w).alloc (Nat.le_refl _) (.cells (fvA f.k f.n f.d vr f.i f.o f.fin vd vc vt) 28)))
  have c0 := (fv_cells (row?_alloc_at w (fvA f.k f.n f.d vr f.i f.o f.fin vd vc vt) 28 w.heap.size rfl)).1
  generalize fvA f.k f.n f.d vr f.i f.o f.fin vd vc vt = F at *
  generalize f.k = k at *
  obtain ⟨r, hr⟩ : ∃ r, elicits k = r := ⟨_, rfl⟩
  rw [hr]
  have HR := Lib.hid hr
  clear hr
  go_enter Try.func31, Try.ntmps31
  by_cases h0 : k = 0
  · subst h0
    go_wp2_with fail
    go_ret
    exact ⟨congrArg (fun z => Ending.returned (.bool z)) HR.out, B1.out⟩
  by_cases h2 : k = 2
  · subst h2
    go_wp2_with fail
    go_ret
    exact ⟨congrArg (fun z => Ending.returned (.bool z)) HR.out, B1.out⟩
  by_cases h28 : k = 28
  · subst h28
    go_wp2_with fail
    go_ret
    exact ⟨congrArg (fun z => Ending.returned (.bool z)) HR.out, B1.out⟩
  have q0 : (k != 0) = true := by simpa using h0
  have q2 : (k != 2) = true := by simpa using h2
  have q28 : (k != 28) = true := by simpa using h28
  have hr : elicits k = true := by simp [elicits, h0, h2, h28]
  have HE := Lib.hid (HR.out.symm.trans hr)
  clear hr
  go_wp2_with fail
  go_ret
  exact ⟨congrArg (fun z => Ending.returned (.bool z)) HE.out.symm, B1.out⟩
theorem frA_laid : frA.laid = [15, 2, 64, 70, 2, 97, 98] := by kernel_rfl
theorem frA_may : frA.may = true := by kernel_rfl
theorem frA_get : fget [15, 2, 64, 70, 2, 97, 98] = (frA, 7, 0) := by kernel_rfl
theorem get3 : fget [3] = (fr0, 0, 6) := by kernel_rfl
theorem all001 : fall [0, 0, 1] = ([frZ2, frP], 0) := by kernel_rfl
theorem buildFA (ao : Option Addr) (m cap : Nat) (w : World) : (buildQ 28 #[(0, .int .i64 8), (4, .int .u64 2), (5, .int .u64 70), (6, .bool true), (7, .slice ao m cap)]).run Try.prog w = .ok (.agg (fvA 8 0 0 (.slice none 0 0) 2 70 true (.slice ao m cap) (.slice none 0 0) (.slice none 0 0))) w := Go.run_build w _ _ _ (by kernel_rfl)
attribute [local go_sem ↓] bdFQ

attribute [local go_sem] buildFA
theorem fbs_rules {w : World} {b1 b2 g : Nat} {F G A : Array Value} (hF : F.size = 10) (hG : G.size = 10) (h1 : A[1]? = some (.int .u64 2)) {W : World} (T : BS w b1 F b2 G g A W) :
    (loadAgg 28 (.pointer (some ⟨b1, 0, none⟩))).run Try.prog W = .ok (.agg F) W ∧ (loadAgg 28 (.pointer (some ⟨b2, 0, none⟩))).run Try.prog W = .ok (.agg G) W ∧ (loadAgg 28 (.pointer (some ⟨g, 0, none⟩))).run Try.prog W = .ok (.agg A) W ∧ W.cell? ⟨g, 1, none⟩ = some (.int .u64 2) := by
  have lf := rldFF W b1 (by rw [T.pr.r1, Option.map_some, hF])
  have lg := rldFF W b2 (by rw [T.pr.r2, Option.map_some, hG])
  rw [T.pr.r1, Option.getD_some] at lf
  rw [T.pr.r2, Option.getD_some] at lg
  exact ⟨lf, lg, load_ten AgFF W g 0 A T.hA T.cz, by have := T.cz 1 (by decide); rw [h1] at this; exact this⟩
set_option maxRecDepth 100000 in
set_option maxHeartbeats 4000000 in
theorem fawake_any (w : World) :
    Calls Try.prog 26 #[] w fun e w' => e = .returned (.bool true) ∧ Below w.heap.size w w' := by
  have hcv := fun (w : World) (C : Array Value) (n c : Nat) => Lib.run_convert_bytes_const (P := Try.prog) w 25 5 C n c Try.underlying25 Try.underlying5
  go_enter Try.func26, Try.ntmps26
  go_wp2_with fail
  have fits : frA.fits := by unfold Fr.fits frA; decide
  have hsl : Sl (w.alloc (.cells #[.int .u8 97, .int .u8 98] 5 (2, 3))) (.slice (some ⟨w.heap.size, 0, none⟩) 2 2) [97, 98] := by
    refine ⟨_, 2, rfl, by decide, fun h => (by cases h), fun _ => ⟨w.heap.size, 0, rfl, fun k hk => ?_⟩⟩
    rw [cell_of_row _ _ _ _ _ _ (heap_alloc_new w _)]
    match k, hk with
    | 0, _ => rfl
    | 1, _ => rfl
  have hz1 : (w.alloc (.cells #[.int .u8 97, .int .u8 98] 5 (2, 3))).heap.size = w.heap.size + 1 := by simp
  have hb0 : Below w.heap.size w (w.alloc (.cells #[.int .u8 97, .int .u8 98] 5 (2, 3))) := (Below.refl _ _).alloc (Nat.le_refl _) _
  generalize w.alloc (.cells #[.int .u8 97, .int .u8 98] 5 (2, 3)) = w1 at *
  have hfv : Fv w1 (.agg (fvA 8 0 0 (.slice none 0 0) 2 70 true (.slice (some ⟨w.heap.size, 0, none⟩) 2 2) (.slice none 0 0) (.slice none 0 0))) frA :=
    ⟨_, _, _, _, rfl, Sr.nil _, hsl, Sl.nil _, Sl.nil _⟩
  have hz : (fvA 8 0 0 (.slice none 0 0) 2 70 true (.slice (some ⟨w.heap.size, 0, none⟩) 2 2) (.slice none 0 0) (.slice none 0 0)).size = 10 := rfl
  generalize fvA 8 0 0 (.slice none 0 0) 2 70 true (.slice (some ⟨w.heap.size, 0, none⟩) 2 2) (.slice none 0 0) (.slice none 0 0) = F at *
  rw [← hz1]
  have hrow := row?_alloc_at w1 F 28 w1.heap.size rfl
  have hb2 : Below w.heap.size w (w1.alloc (.cells F 28)) := hb0.alloc hb0.size _
  have hfv2 : Fv (w1.alloc (.cells F 28)) (.agg F) frA := hfv.below ((Below.refl _ _).alloc (Nat.le_refl _) _)
  clear hcv hsl
  generalize w1.alloc (.cells F 28) = w2 at *
  have hlt := row?_lt hrow
  refine (fput_fr frA fits (.agg F) w2 hfv2).mono ?_
  rintro e w3 ⟨v3, rfl, ho3, h3⟩
  rw [frA_laid] at ho3
  have row3 : row? w3 w1.heap.size = some F := by rw [row?_below h3 hlt]; exact hrow
  have fv3 := hfv2.below h3
  have b3 : Below w.heap.size w w3 := hb2.trans (h3.mono hb2.size)
  have s3 : Sl w3 v3 [15, 2, 64, 70, 2, 97, 98] := Own.sl ho3
  have l3 : w1.heap.size < w3.heap.size := row?_lt row3
  clear ho3 h3 hfv2 hfv hrow hlt hb2
  go_wp2_with fail
  refine (fget_any _ (by decide) v3 w3 s3).mono ?_
  rintro e w4 ⟨v4, rfl, ho4, h4⟩
  rw [frA_get] at ho4 ⊢
  have row4 : row? w4 w1.heap.size = some F := by rw [row?_below h4 l3]; exact row3
  have fv4 := fv3.below h4
  have g4 : Fv w4 v4 frA := FO.fv ho4
  have b4 : Below w.heap.size w w4 := b3.trans (h4.mono b3.size)
  have l4 : w1.heap.size < w4.heap.size := row?_lt row4
  obtain ⟨G, rfl, fva⟩ := ho4.fva (g := none) (fun k hk => by cases hk)
  have hG := fva.size.1
  have hG1 := fva.size.2
  clear ho4 h4 fv3 row3 s3 b3 l3 fva
  go_wp2_with fail
  rw [← hz1]
  have S5 : AS w w1.heap.size F w4.heap.size G (w4.alloc (.cells G 28)) :=
    ⟨by rw [row?_alloc_past _ _ _ l4]; exact row4, row?_alloc_at _ _ _ _ rfl, fv4.below ((Below.refl _ _).alloc (Nat.le_refl _) _), g4.below ((Below.refl _ _).alloc (Nat.le_refl _) _), b4.alloc b4.size _⟩
  have z5 : (w4.alloc (.cells G 28)).heap.size = w4.heap.size + 1 := by simp
  clear row4 fv4 g4 b4 l4
  rw [← z5]
  generalize w4.alloc (.cells G 28) = w5 at *
  have s6 : Sl (w5.alloc (.cells #[.int .u8 3] 5)) (.slice (some ⟨w5.heap.size, 0, none⟩) 1 1) [3] := Sl.row (l := ([3] : List UInt8)) (row?_alloc_at w5 #[.int .u8 3] 5 _ rfl)
  have S6 := S5.alloc #[.int .u8 3] 5
  clear S5
  generalize w5.alloc (.cells #[.int .u8 3] 5) = w6 at *
  refine (fget_any _ (by decide) _ w6 s6).mono ?_
  rintro e w7 ⟨v7, rfl, ho7, h7⟩
  rw [get3] at ho7 ⊢
  have S7 := S6.step h7
  obtain ⟨H, rfl, fva⟩ := ho7.fva (g := none) (fun k hk => by cases hk)
  have hH := fva.size.1
  have hH1 := fva.size.2
  clear S6 ho7 h7 s6 fva z5
  go_wp2_with fail
  have S7' := S7.alloc H 28
  clear S7
  have z7 : (w7.alloc (.cells H 28)).heap.size = w7.heap.size + 1 := by simp
  rw [← z7]
  generalize w7.alloc (.cells H 28) = w7' at *
  have s8 : Sl (w7'.alloc (.cells #[.int .u8 0, .int .u8 0, .int .u8 1] 5)) (.slice (some ⟨w7'.heap.size, 0, none⟩) 3 3) [0, 0, 1] := Sl.row (l := ([0, 0, 1] : List UInt8)) (row?_alloc_at w7' #[.int .u8 0, .int .u8 0, .int .u8 1] 5 _ rfl)
  have S8 := S7'.alloc #[.int .u8 0, .int .u8 0, .int .u8 1] 5
  clear S7'
  generalize w7'.alloc (.cells #[.int .u8 0, .int .u8 0, .int .u8 1] 5) = w8 at *
  refine (fall_any _ (by decide) _ w8 s8).mono ?_
  rintro e w9 ⟨v9, rfl, ho9, h9⟩
  rw [all001] at ho9 ⊢
  have S9 := S8.step h9
  clear S8 h9 s8
  have ho10 : OwnFs w9 w8.heap.size 28 v9 [frZ2, frP] := ho9
  obtain ⟨g, cap, A, e9, fva, hA, cA⟩ := ho10.get 0 (by decide)
  have e9' : v9 = .slice (some ⟨g, 0, none⟩) 2 cap := e9
  subst e9'
  have fz : Fv w9 (.agg A) frZ2 := fva.fv
  have cz : ∀ j, j < 10 → w9.cell? ⟨g, 0 + j, none⟩ = A[j]? := fun j hj => by have := cA j hj; rw [Nat.zero_mul] at this; exact this
  have a1 : A[1]? = some (.int .u64 2) := by obtain ⟨_, _, _, _, rfl, _⟩ := fva; rfl
  have T9 : BS w w1.heap.size F w4.heap.size G g A w9 := ⟨S9, fz, hA, cz⟩
  clear ho9 ho10 cA fva e9 fz cz S9 z7
  simp only []
  have RUL := fun (W : World) (T : BS w w1.heap.size F w4.heap.size G g A W) => fbs_rules hz hG a1 T
  have HF := Lib.hid fits
  rw [hz1] at RUL T9
  clear fits hz hG a1 hA hz1
  have T9 := Lib.hid T9
  obtain ⟨lf, lg, l10, c1⟩ := RUL _ T9.out
  have RUL' := Lib.hid RUL
  clear RUL
  go_wp2_with fail
  have RUL := RUL'.out
  clear RUL' lf lg l10 c1
  have hq := sameB_self frA
  have hcall := fsame_fr frA frA HF.out (.agg F) (.agg G) w9 T9.out.pr.f1 T9.out.pr.f2
  rw [hq] at hcall
  refine hcall.mono ?_
  rintro e w10 ⟨rfl, h⟩
  have T10 := T9.out.step h
  clear T9 hcall hq h
  have T10 := Lib.hid T10
  obtain ⟨lf, lg, l10, c1⟩ := RUL _ T10.out
  have RUL' := Lib.hid RUL
  clear RUL
  go_wp2_with fail
  have RUL := RUL'.out
  clear RUL' lf lg l10 c1
  have hq : elicits frA.k = true := rfl
  have hcall := feli_fr frA (.agg F) w10 T10.out.pr.f1
  rw [hq] at hcall
  refine hcall.mono ?_
  rintro e w11 ⟨rfl, h⟩
  have T11 := T10.out.step h
  clear T10 hcall hq h
  have T11 := Lib.hid T11
  obtain ⟨lf, lg, l10, c1⟩ := RUL _ T11.out
  have RUL' := Lib.hid RUL
  clear RUL
  go_wp2_with fail
  have RUL := RUL'.out
  clear RUL' lf lg l10 c1
  have hq : elicits frZ2.k = false := rfl
  have hcall := feli_fr frZ2 (.agg A) w11 T11.out.fz
  rw [hq] at hcall
  refine hcall.mono ?_
  rintro e w12 ⟨rfl, h⟩
  have T12 := T11.out.step h
  clear T11 hcall hq h
  have T12 := Lib.hid T12
  obtain ⟨lf, lg, l10, c1⟩ := RUL _ T12.out
  have RUL' := Lib.hid RUL
  clear RUL
  go_wp2_with fail
  have RUL := RUL'.out
  clear RUL' lf lg l10 c1
  have hq : frA.laid.length = 7 := by rw [frA_laid]; rfl
  have hcall := flen_fr frA HF.out (.agg F) w12 T12.out.pr.f1
  rw [hq] at hcall
  refine hcall.mono ?_
  rintro e w13 ⟨rfl, h⟩
  have T13 := T12.out.step h
  clear T12 hcall hq h
  have T13 := Lib.hid T13
  obtain ⟨lf, lg, l10, c1⟩ := RUL _ T13.out
  have RUL' := Lib.hid RUL
  clear RUL
  go_wp2_with fail
  have RUL := RUL'.out
  clear RUL' lf lg l10 c1
  have hq := frA_may
  have hcall := fmay_fr frA HF.out (.agg F) w13 T13.out.pr.f1
  rw [hq] at hcall
  refine hcall.mono ?_
  rintro e w14 ⟨rfl, h⟩
  have T14 := T13.out.step h
  clear T13 hcall hq h
  have B := T14.pr.bel
  go_wp2_with fail
  go_ret
  exact ⟨rfl, B⟩
end Go.Proofs.Ytipniobgijdlkaa
