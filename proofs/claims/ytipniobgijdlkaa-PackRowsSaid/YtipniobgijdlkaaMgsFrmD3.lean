/- The walk of the document's Get: the frame at the beginning of bytes. -/
import Derived.Test.YtipniobgijdlkaaMgsFrmD2
import Derived.Test.YtipniobgijdlkaaMgsFrmW5
import Derived.Deep.DeepCutAuto
import Derived.Deep.CutBlock
namespace Frm
open Go Go.RowKit Go.Rw Hdr
def dbytes (b : List UInt8) (s : Nat × Int) (f : Fr) : (Nat × Int) × Fr :=
  let o := dnum b vMax s
  let n := dnum b 16383 o.1
  let t := rtake b n.2 (if n.1.2 = 0 ∧ vMax - n.2 < o.2 then (n.1.1, 5) else n.1)
  (t.1, { f with o := o.2, dat := t.2 })
def dcid (b : List UInt8) (s : Nat × Int) (f : Fr) : (Nat × Int) × Fr :=
  let n := dnum b vMax s
  let k := rtake b 1 (dnum b 0 n.1).1
  let c := rtake b 8 (if k.1.2 = 0 ∧ nth k.2 0 ≠ 8 then (k.1.1, 5) else k.1)
  let t := rtake b 16 c.1
  (t.1, { f with n := n.2, cid := c.2, tok := t.2 })
theorem rtake_full {b : List UInt8} {n : Nat} {s : Nat × Int} (h : (rtake b n s).1.2 = 0) : (rtake b n s).2.length = n := by
  unfold rtake at h ⊢
  split at h
  · rename_i hh; exact absurd h hh
  · rename_i h0
    rw [if_neg h0]
    split at h
    · simp at h
    · rename_i h1
      rw [if_neg h1]
      show ((b.drop s.1).take n).length = n
      rw [List.length_take, List.length_drop]; omega
def dbody (b : List UInt8) (s : Nat × Int) (f : Fr) : (Nat × Int) × Fr :=
  if f.k = 1 ∨ f.k = 30 then (s, f)
  else if f.k = 2 then dack b s f
  else if f.k = 14 ∨ f.k = 15 then dbytes b (dnum b vMax s).1 { f with fin := (f.k == 15), k := 8, i := (dnum b vMax s).2 }
  else if f.k = 6 then dbytes b s f
  else if f.k = 16 ∨ f.k = 25 then ((dnum b vMax s).1, { f with n := (dnum b vMax s).2 })
  else if f.k = 28 then ((dnum b 0 (dnum b 0 (dnum b vMax s).1).1).1, { f with n := (dnum b vMax s).2 })
  else if f.k = 24 then dcid b s f
  else if f.k = 26 ∨ f.k = 27 then ((rtake b 8 s).1, { f with dat := (rtake b 8 s).2 })
  else ((s.1, 6), f)
def dget (b : List UInt8) : Fr × Nat × Int :=
  if b.length = 0 then (fr0, 0, 3)
  else if nth b 0 = 0 then ({ fr0 with n := zrun b }, zrun b, 0)
  else
    let r := dbody b (1, 0) { fr0 with k := (n8 (nth b 0) : Nat) }
    if r.1.2 ≠ 0 then (fr0, 0, r.1.2) else (r.2, r.1.1, 0)
theorem dbody_1 (b : List UInt8) (s : Nat × Int) (f : Fr) (h : f.k = 1 ∨ f.k = 30) : dbody b s f = (s, f) := by unfold dbody; rw [if_pos h]
theorem dbody_2 (b : List UInt8) (s : Nat × Int) (f : Fr) (h : f.k = 2) : dbody b s f = dack b s f := by unfold dbody; rw [if_neg (by omega), if_pos h]
theorem dbody_14 (b : List UInt8) (s : Nat × Int) (f : Fr) (h : f.k = 14 ∨ f.k = 15) : dbody b s f = dbytes b (dnum b vMax s).1 { f with fin := (f.k == 15), k := 8, i := (dnum b vMax s).2 } := by unfold dbody; rw [if_neg (by omega), if_neg (by omega), if_pos h]
theorem dbody_6 (b : List UInt8) (s : Nat × Int) (f : Fr) (h : f.k = 6) : dbody b s f = dbytes b s f := by unfold dbody; rw [if_neg (by omega), if_neg (by omega), if_neg (by omega), if_pos h]
theorem dbody_16 (b : List UInt8) (s : Nat × Int) (f : Fr) (h : f.k = 16 ∨ f.k = 25) : dbody b s f = ((dnum b vMax s).1, { f with n := (dnum b vMax s).2 }) := by unfold dbody; rw [if_neg (by omega), if_neg (by omega), if_neg (by omega), if_neg (by omega), if_pos h]
theorem dbody_28 (b : List UInt8) (s : Nat × Int) (f : Fr) (h : f.k = 28) : dbody b s f = ((dnum b 0 (dnum b 0 (dnum b vMax s).1).1).1, { f with n := (dnum b vMax s).2 }) := by unfold dbody; rw [if_neg (by omega), if_neg (by omega), if_neg (by omega), if_neg (by omega), if_neg (by omega), if_pos h]
theorem dbody_24 (b : List UInt8) (s : Nat × Int) (f : Fr) (h : f.k = 24) : dbody b s f = dcid b s f := by unfold dbody; rw [if_neg (by omega), if_neg (by omega), if_neg (by omega), if_neg (by omega), if_neg (by omega), if_neg (by omega), if_pos h]
theorem dbody_26 (b : List UInt8) (s : Nat × Int) (f : Fr) (h : f.k = 26 ∨ f.k = 27) : dbody b s f = ((rtake b 8 s).1, { f with dat := (rtake b 8 s).2 }) := by unfold dbody; rw [if_neg (by omega), if_neg (by omega), if_neg (by omega), if_neg (by omega), if_neg (by omega), if_neg (by omega), if_neg (by omega), if_pos h]
theorem dbody_no (b : List UInt8) (s : Nat × Int) (f : Fr) (h : f.k ≠ 1 ∧ f.k ≠ 30 ∧ f.k ≠ 2 ∧ f.k ≠ 6 ∧ f.k ≠ 14 ∧ f.k ≠ 15 ∧ f.k ≠ 16 ∧ f.k ≠ 25 ∧ f.k ≠ 24 ∧ f.k ≠ 26 ∧ f.k ≠ 27 ∧ f.k ≠ 28) : dbody b s f = ((s.1, 6), f) := by unfold dbody; rw [if_neg (by omega), if_neg (by omega), if_neg (by omega), if_neg (by omega), if_neg (by omega), if_neg (by omega), if_neg (by omega), if_neg (by omega)]
end Frm
namespace Go.Proofs.Ytipniobgijdlkaa
open Go.RowKit Go.Rw Frm Hdr
attribute [local go_sem ↓] ldFF stFF alFF
attribute [local go_sem] rldFF rstFF ralFF setRow_alloc_at setRow_alloc_past setRow_drew
attribute [local go_sem ↓] fvA_0 fvA_1 fvA_2 fvA_3 fvA_4 fvA_5 fvA_6 fvA_7 fvA_8 fvA_9
theorem bdDQ (ps : Array (Nat × Value)) : Instr.build 85 ps = buildQ 85 ps := rfl
theorem buildFN (n : Nat) (w : World) : (buildQ 28 #[(1, .int .u64 (n : Nat))]).run Try.prog w = .ok (.agg (fvA 0 n 0 (.slice none 0 0) 0 0 false (.slice none 0 0) (.slice none 0 0) (.slice none 0 0))) w := Go.run_build w _ _ _ (by kernel_rfl)
theorem buildDd (ao : Option Addr) (n cap : Nat) (w : World) : (buildQ 85 #[(0, .slice ao n cap), (1, .int .i64 1)]).run Try.prog w = .ok (.agg #[.slice ao n cap, .int .i64 1, .int .i64 0]) w := Go.run_build w _ _ _ (by kernel_rfl)
attribute [local go_sem ↓] bdFQ bdDQ
attribute [local go_sem] buildF0 buildF1 buildFN buildDd
set_option maxRecDepth 400000 in
set_option maxHeartbeats 8000000 in
theorem dget_any (b : List UInt8) (hb : b.length ≤ 1000000) (vb : Value) (w : World) (hs : Sl w vb b) :
    Calls Try.prog 35 #[vb] w (FGet w (dget b)) := by
  obtain ⟨q, hq⟩ : ∃ q, dget b = q := ⟨_, rfl⟩
  rw [hq]
  obtain ⟨ao, cap, rfl, hc, hnn, hp⟩ := id hs
  have HQ := Lib.hid hq
  have HS := Lib.hid hs
  have HP := Lib.hid hp
  clear hq hs hp hnn
  go_enter Try.func35, Try.ntmps35
  by_cases h0 : b.length = 0
  case pos =>
    have hq := HQ.out
    unfold dget at hq
    rw [if_pos h0] at hq
    subst hq
    have q0 : ((b.length : Int) == 0) = true := by rw [beq_iff_eq]; omega
    have H0 := Lib.hid h0
    clear h0 HQ
    go_wp2_with fail
    exact bodyPost_ret (results_row3 AgFF rfl _ _ w.heap.size (fvA 0 0 0 (.slice none 0 0) 0 0 false (.slice none 0 0) (.slice none 0 0) (.slice none 0 0)) rfl (row?_alloc_at _ _ _ _ rfl) rfl) rfl ⟨_, rfl, FO.zero _ _ _ _ 0 0, (Below.refl _ _).alloc (Nat.le_refl _) _⟩
  have q0 : ((b.length : Int) == 0) = false := by rw [beq_eq_false_iff_ne]; omega
  obtain ⟨bb, off, rfl, hcell⟩ := HP.out (by omega)
  have c0 := hcell 0 (by omega)
  rw [Nat.add_zero] at c0
  have cb := cell_lt c0
  have HC := Lib.hid hcell
  have hl0 : 0 < b.length := by omega
  have HL0 := Lib.hid h0
  obtain ⟨c, hcd⟩ : ∃ c, nth b 0 = c := ⟨_, rfl⟩
  rw [hcd] at c0
  have HCD := Lib.hid hcd
  obtain ⟨K, hK⟩ : ∃ K : Int, ((n8 c : Nat) : Int) = K := ⟨_, rfl⟩
  have hkl : 0 ≤ K ∧ K < 256 := by have := n8_lt c; omega
  rw [hK] at c0
  have HK := Lib.hid hK
  have hw8 : wrap64 K = K := by unfold wrap64; omega
  have hza := (fz_all K 0)
  have HKL := Lib.hid hkl
  clear hcell hcd h0 HP hK hkl
  have k0c : K = 0 ↔ nth b 0 = 0 := by
    rw [HCD.out, ← HK.out]
    constructor
    · intro h; exact UInt8.toNat.inj (by show n8 c = 0; omega)
    · intro h; rw [h]; rfl
  have HKC := Lib.hid k0c
  clear k0c
  go_upto_region 5 with (fail)
  have hrow1 : row? (((w.alloc (.cells (fvA 0 0 0 (.slice none 0 0) 0 0 false (.slice none 0 0) (.slice none 0 0) (.slice none 0 0)) 28)).alloc (.cells (fvA K 0 0 (.slice none 0 0) 0 0 false (.slice none 0 0) (.slice none 0 0) (.slice none 0 0)) 28)).alloc (.cells #[.slice (some ⟨bb, off, none⟩) b.length cap, .int .i64 1, .int .i64 0] 85)) (w.heap.size + 1) = some (fvA K 0 0 (.slice none 0 0) 0 0 false (.slice none 0 0) (.slice none 0 0) (.slice none 0 0)) := by
    rw [row?_alloc_past _ _ _ (by simp)]; exact row?_alloc_at _ _ _ _ (by simp)
  have hrow2 : row? (((w.alloc (.cells (fvA 0 0 0 (.slice none 0 0) 0 0 false (.slice none 0 0) (.slice none 0 0) (.slice none 0 0)) 28)).alloc (.cells (fvA K 0 0 (.slice none 0 0) 0 0 false (.slice none 0 0) (.slice none 0 0) (.slice none 0 0)) 28)).alloc (.cells #[.slice (some ⟨bb, off, none⟩) b.length cap, .int .i64 1, .int .i64 0] 85)) (w.heap.size + 2) = some #[.slice (some ⟨bb, off, none⟩) b.length cap, .int .i64 ((1 : Nat) : Int), .int .i64 0] := row?_alloc_at _ _ _ _ (by simp)
  have hrow0 : row? (((w.alloc (.cells (fvA 0 0 0 (.slice none 0 0) 0 0 false (.slice none 0 0) (.slice none 0 0) (.slice none 0 0)) 28)).alloc (.cells (fvA K 0 0 (.slice none 0 0) 0 0 false (.slice none 0 0) (.slice none 0 0) (.slice none 0 0)) 28)).alloc (.cells #[.slice (some ⟨bb, off, none⟩) b.length cap, .int .i64 1, .int .i64 0] 85)) w.heap.size = some (fvA 0 0 0 (.slice none 0 0) 0 0 false (.slice none 0 0) (.slice none 0 0) (.slice none 0 0)) := by
    rw [row?_alloc_past _ _ _ (by simp <;> omega), row?_alloc_past _ _ _ (by simp)]; exact row?_alloc_at _ _ _ _ rfl
  have hbel : Below w.heap.size w (((w.alloc (.cells (fvA 0 0 0 (.slice none 0 0) 0 0 false (.slice none 0 0) (.slice none 0 0) (.slice none 0 0)) 28)).alloc (.cells (fvA K 0 0 (.slice none 0 0) 0 0 false (.slice none 0 0) (.slice none 0 0) (.slice none 0 0)) 28)).alloc (.cells #[.slice (some ⟨bb, off, none⟩) b.length cap, .int .i64 1, .int .i64 0] 85)) := (bel2 w _ _).alloc (by simp <;> omega) _
  have hsz : (((w.alloc (.cells (fvA 0 0 0 (.slice none 0 0) 0 0 false (.slice none 0 0) (.slice none 0 0) (.slice none 0 0)) 28)).alloc (.cells (fvA K 0 0 (.slice none 0 0) 0 0 false (.slice none 0 0) (.slice none 0 0) (.slice none 0 0)) 28)).alloc (.cells #[.slice (some ⟨bb, off, none⟩) b.length cap, .int .i64 1, .int .i64 0] 85)).heap.size = w.heap.size + 3 := by simp
  generalize hWW : (((w.alloc (.cells (fvA 0 0 0 (.slice none 0 0) 0 0 false (.slice none 0 0) (.slice none 0 0) (.slice none 0 0)) 28)).alloc (.cells (fvA K 0 0 (.slice none 0 0) 0 0 false (.slice none 0 0) (.slice none 0 0) (.slice none 0 0)) 28)).alloc (.cells #[.slice (some ⟨bb, off, none⟩) b.length cap, .int .i64 1, .int .i64 0] 85)) = W at hrow1 hrow2 hrow0 hbel hsz ⊢
  clear hWW
  have cW := below_cell hbel c0 cb
  have fW := row?_frozen hrow0
  go_upto_block 0 with (fail)
  rw [hw8]
  by_cases k0 : K = 0
  case pos =>
    have HN0 := Lib.hid (HKC.out.1 k0)
    clear HKC
    subst k0
    have HB := Lib.hid hbel
    clear hbel hrow1 hrow2 hsz fW
    go_wp2_with fail
    go_loopw [7] (fun v wr => ∃ j : Nat, j ≤ b.length ∧ j ≤ 16384 ∧ v = .int .i64 j ∧ (∀ k, k < j → nth b k = 0) ∧ W = wr) (fun v _ => b.length - (intOf v).toNat)
    case atStart => exact ⟨0, by omega, by omega, rfl, fun k hk => absurd hk (by omega), rfl⟩
    case round =>
      obtain ⟨j, hj1, hj2, rfl, hall, rfl⟩ := hrel
      have HA := Lib.hid hall
      clear hall c0 cW
      by_cases g1 : j < b.length
      case neg =>
        have p : decide (j < b.length) = false := decide_eq_false g1
        have hz : zrun b = j := zrun_of hj1 hj2 HA.out (by omega)
        have hq := HQ.out
        unfold dget at hq
        rw [if_neg HL0.out, if_pos HN0.out, hz] at hq
        subst hq
        have hzb := fz_all 0 j
        have hwj : IntKind.u64.wrap ((j : Nat) : Int) = (j : Nat) := by simp only [IntKind.wrap_u64]; omega
        clear HQ hz g1
        go_wp2_with fail
        exact bodyPost_ret (results_row3 AgFF rfl _ _ w.heap.size (fvA 0 j 0 (.slice none 0 0) 0 0 false (.slice none 0 0) (.slice none 0 0) (.slice none 0 0)) rfl (row?_setRow_eq hrow0) rfl) rfl ⟨_, rfl, FO.zero _ _ _ _ 0 j, below_setRow HB.out (Nat.le_refl _) _⟩
      have p : decide (j < b.length) = true := decide_eq_true g1
      by_cases g2 : j < 16384
      case neg =>
        have p2 : decide ((j : Int) < 16384) = false := decide_eq_false (by omega)
        have hz : zrun b = j := zrun_of hj1 hj2 HA.out (by omega)
        have hq := HQ.out
        unfold dget at hq
        rw [if_neg HL0.out, if_pos HN0.out, hz] at hq
        subst hq
        have hzb := fz_all 0 j
        have hwj : IntKind.u64.wrap ((j : Nat) : Int) = (j : Nat) := by simp only [IntKind.wrap_u64]; omega
        clear HQ hz g1 g2
        go_wp2_with fail
        exact bodyPost_ret (results_row3 AgFF rfl _ _ w.heap.size (fvA 0 j 0 (.slice none 0 0) 0 0 false (.slice none 0 0) (.slice none 0 0) (.slice none 0 0)) rfl (row?_setRow_eq hrow0) rfl) rfl ⟨_, rfl, FO.zero _ _ _ _ 0 j, below_setRow HB.out (Nat.le_refl _) _⟩
      have p2 : decide ((j : Int) < 16384) = true := decide_eq_true (by omega)
      have cj := below_cell HB.out (HC.out j g1) (cell_lt (HC.out j g1))
      by_cases g3 : nth b j = 0
      · have p3 : (nth b j == 0) = true := by simpa using g3
        have G3 := Lib.hid g3
        clear g3
        go_wp2_with fail
        go_roundw
        case rel =>
          refine ⟨j + 1, by omega, by omega, by go_num, fun k hk => ?_, by first | rfl | trivial⟩
          by_cases hkj : k = j
          · subst hkj; exact G3.out
          · exact HA.out k (by omega)
        case measure => simp [intOf]; omega
      · have p3 : (nth b j == 0) = false := by simpa using g3
        have hz : zrun b = j := zrun_of hj1 hj2 HA.out (by right; right; exact g3)
        have hq := HQ.out
        unfold dget at hq
        rw [if_neg HL0.out, if_pos HN0.out, hz] at hq
        subst hq
        have hzb := fz_all 0 j
        have hwj : IntKind.u64.wrap ((j : Nat) : Int) = (j : Nat) := by simp only [IntKind.wrap_u64]; omega
        clear HQ hz g3
        go_wp2_with fail
        exact bodyPost_ret (results_row3 AgFF rfl _ _ w.heap.size (fvA 0 j 0 (.slice none 0 0) 0 0 false (.slice none 0 0) (.slice none 0 0) (.slice none 0 0)) rfl (row?_setRow_eq hrow0) rfl) rfl ⟨_, rfl, FO.zero _ _ _ _ 0 j, below_setRow HB.out (Nat.le_refl _) _⟩
  have qk0 : (K == 0) = false := by simpa using k0
  have hA : FSA b w (.slice (some ⟨bb, off, none⟩) b.length cap) (w.heap.size + 2) (w.heap.size + 1) (w.heap.size + 3) 58 5 W W (1, 0) { fr0 with k := K } :=
    ⟨⟨hrow2, by show 1 ≤ b.length; omega, hb, HS.out, hbel, by omega⟩, ⟨.slice none 0 0, ⟨hrow1, World.ownsRow_nil _ _ _ _, World.ownsRow_nil _ _ _ _, World.ownsRow_nil _ _ _ _, World.ownsRow_nil _ _ _ _⟩⟩, by omega, by omega, by omega, by omega, by omega, by omega, Mut2.refl _ _ _⟩
  have hq := HQ.out
  unfold dget at hq
  rw [if_neg HL0.out, if_neg (fun h => k0 (HKC.out.2 h)), HCD.out, HK.out] at hq
  simp only [] at hq
  obtain ⟨⟨s', f'⟩, hr⟩ : ∃ q, dbody b (1, 0) { fr0 with k := K } = q := ⟨_, rfl⟩
  rw [hr] at hq
  simp only [] at hq
  have HQ2 := Lib.hid hq
  have HRB := Lib.hid hr
  have HROW0 := Lib.hid hrow0
  have HA := Lib.hid hA
  have HBEL := Lib.hid hbel
  clear hq hr HQ k0 HKC hrow1 hrow2 hbel hsz hA hza
  by_cases hkk : K = 1 ∨ K = 30 ∨ K = 2 ∨ K = 6 ∨ K = 14 ∨ K = 15 ∨ K = 16 ∨ K = 25 ∨ K = 24 ∨ K = 26 ∨ K = 27 ∨ K = 28
  case neg =>
    have hr := HRB.out
    rw [dbody_no b _ _ (by show K ≠ 1 ∧ K ≠ 30 ∧ K ≠ 2 ∧ K ≠ 6 ∧ K ≠ 14 ∧ K ≠ 15 ∧ K ≠ 16 ∧ K ≠ 25 ∧ K ≠ 24 ∧ K ≠ 26 ∧ K ≠ 27 ∧ K ≠ 28; omega)] at hr
    have hq := HQ2.out
    obtain rfl : (1, (6 : Int)) = s' := congrArg Prod.fst hr
    rw [if_pos (by simp)] at hq
    subst hq
    have e1 : (K == 1) = false := by rw [beq_eq_false_iff_ne]; intro h; exact hkk (by omega)
    have e30 : (K == 30) = false := by rw [beq_eq_false_iff_ne]; intro h; exact hkk (by omega)
    have e2 : (K == 2) = false := by rw [beq_eq_false_iff_ne]; intro h; exact hkk (by omega)
    have e6 : (K == 6) = false := by rw [beq_eq_false_iff_ne]; intro h; exact hkk (by omega)
    have e14 : (K == 14) = false := by rw [beq_eq_false_iff_ne]; intro h; exact hkk (by omega)
    have e15 : (K == 15) = false := by rw [beq_eq_false_iff_ne]; intro h; exact hkk (by omega)
    have e16 : (K == 16) = false := by rw [beq_eq_false_iff_ne]; intro h; exact hkk (by omega)
    have e25 : (K == 25) = false := by rw [beq_eq_false_iff_ne]; intro h; exact hkk (by omega)
    have e24 : (K == 24) = false := by rw [beq_eq_false_iff_ne]; intro h; exact hkk (by omega)
    have e26 : (K == 26) = false := by rw [beq_eq_false_iff_ne]; intro h; exact hkk (by omega)
    have e27 : (K == 27) = false := by rw [beq_eq_false_iff_ne]; intro h; exact hkk (by omega)
    have e28 : (K == 28) = false := by rw [beq_eq_false_iff_ne]; intro h; exact hkk (by omega)
    have HKK := Lib.hid hkk
    clear hkk hr HQ2 HRB
    go_wp2_with fail
    exact bodyPost_ret (results_row3 AgFF rfl _ _ w.heap.size (fvA 0 0 0 (.slice none 0 0) 0 0 false (.slice none 0 0) (.slice none 0 0) (.slice none 0 0)) rfl (row?_setRow_eq hrow0) rfl) rfl ⟨_, rfl, FO.zero _ _ _ _ 0 0, below_setRow HBEL.out (Nat.le_refl _) _⟩
  have HKK := Lib.hid hkk
  clear hkk
  go_cut [] (fun wx => FS b w (.slice (some ⟨bb, off, none⟩) b.length cap) (w.heap.size + 2) (w.heap.size + 1) (w.heap.size + 3) 58 5 W wx s' f')
  case first =>
    have cK : W.cell? ⟨w.heap.size + 1, 0, none⟩ = some (.int .i64 K) := by
      obtain ⟨vr, fa⟩ := HA.out.fa
      exact row?_cell fa.row 0
    have fB := row?_frozen HA.out.rs.row
    have fF := HA.out.fs.cells.2
    have hr := HRB.out
    by_cases k1 : K = 1
    case pos =>
      subst k1
      rw [dbody_1 b _ _ (.inl rfl)] at hr
      have HR := Lib.hid hr
      clear hr HRB HQ2
      have HF := Lib.hid HA.out.fs
      clear HA fF
      go_wp2_with fail
      go_meet
      have e1 := congrArg Prod.fst HR.out
      have e2 := congrArg Prod.snd HR.out
      simp only [] at e1 e2
      subst e1 e2
      exact HF.out
    have q1 : (K == 1) = false := by simpa using k1
    by_cases k30 : K = 30
    case pos =>
      subst k30
      rw [dbody_1 b _ _ (.inr rfl)] at hr
      have HR := Lib.hid hr
      clear hr HRB HQ2
      have HF := Lib.hid HA.out.fs
      clear HA fF
      go_wp2_with fail
      go_meet
      have e1 := congrArg Prod.fst HR.out
      have e2 := congrArg Prod.snd HR.out
      simp only [] at e1 e2
      subst e1 e2
      exact HF.out
    have q30 : (K == 30) = false := by simpa using k30
    by_cases k2 : K = 2
    case pos =>
      subst k2
      rw [dbody_2 b _ _ rfl] at hr
      have hc := dack_any b w _ (w.heap.size + 2) (w.heap.size + 1) (w.heap.size + 3) W W (1, 0) { fr0 with k := 2 } rfl HA.out
      rw [hr] at hc
      have HC := Lib.hid hc
      clear hc hr HRB HQ2 HA fF
      go_wp2_with fail
      refine HC.out.mono ?_
      rintro e w1 ⟨rfl, h⟩
      have H1 := Lib.hid h
      clear h HC
      go_wp2_with fail
      go_meet
      exact H1.out
    have q2 : (K == 2) = false := by simpa using k2
    by_cases k16 : K = 16
    case pos =>
      subst k16
      rw [dbody_16 b _ _ (.inl rfl)] at hr
      obtain ⟨⟨s1, n1⟩, hv⟩ : ∃ q, dnum b vMax (1, 0) = q := ⟨_, rfl⟩
      have lt1 := dnum_lt62 b vMax (1, 0)
      have lm1 := dnum_most b vMax (1, 0)
      rw [hv] at hr lt1 lm1
      simp only [] at hr lt1 lm1
      have LT1 := Lib.hid (And.intro lt1 lm1)
      have V1 := Lib.hid hv
      clear hv lt1 lm1
      have HR := Lib.hid hr
      clear hr HRB HQ2
      have HF := Lib.hid HA.out.fs
      clear HA fF
      go_wp2_with fail
      have hn := dnumM_any b w _ (w.heap.size + 2) W (1, 0) HF.out.rs
      rw [V1.out] at hn
      refine hn.mono ?_
      rintro e w1 ⟨rfl, m, r⟩
      have h := HF.out.step m r
      obtain ⟨⟨ur, ud, uc, ut, rr⟩, fF⟩ := h.cells
      have cc : w1.cell? ⟨w.heap.size + 1, 1, none⟩ = some (.int .u64 0) := row?_cell rr 1
      have H1a := Lib.hid h
      clear h m r hn rr HF
      simp only []
      go_wp2_with fail
      have h := H1a.out.set_n n1
      clear cc fF H1a
      generalize (w1.setCell ⟨w.heap.size + 1, 1, none⟩ (.int .u64 (n1 : Nat))) = w1b at h ⊢
      have H1 := Lib.hid h
      clear h
      go_meet
      have e1 := congrArg Prod.fst HR.out
      have e2 := congrArg Prod.snd HR.out
      simp only [] at e1 e2
      subst e1 e2
      exact H1.out
    have q16 : (K == 16) = false := by simpa using k16
    by_cases k25 : K = 25
    case pos =>
      subst k25
      rw [dbody_16 b _ _ (.inr rfl)] at hr
      obtain ⟨⟨s1, n1⟩, hv⟩ : ∃ q, dnum b vMax (1, 0) = q := ⟨_, rfl⟩
      have lt1 := dnum_lt62 b vMax (1, 0)
      have lm1 := dnum_most b vMax (1, 0)
      rw [hv] at hr lt1 lm1
      simp only [] at hr lt1 lm1
      have LT1 := Lib.hid (And.intro lt1 lm1)
      have V1 := Lib.hid hv
      clear hv lt1 lm1
      have HR := Lib.hid hr
      clear hr HRB HQ2
      have HF := Lib.hid HA.out.fs
      clear HA fF
      go_wp2_with fail
      have hn := dnumM_any b w _ (w.heap.size + 2) W (1, 0) HF.out.rs
      rw [V1.out] at hn
      refine hn.mono ?_
      rintro e w1 ⟨rfl, m, r⟩
      have h := HF.out.step m r
      obtain ⟨⟨ur, ud, uc, ut, rr⟩, fF⟩ := h.cells
      have cc : w1.cell? ⟨w.heap.size + 1, 1, none⟩ = some (.int .u64 0) := row?_cell rr 1
      have H1a := Lib.hid h
      clear h m r hn rr HF
      simp only []
      go_wp2_with fail
      have h := H1a.out.set_n n1
      clear cc fF H1a
      generalize (w1.setCell ⟨w.heap.size + 1, 1, none⟩ (.int .u64 (n1 : Nat))) = w1b at h ⊢
      have H1 := Lib.hid h
      clear h
      go_meet
      have e1 := congrArg Prod.fst HR.out
      have e2 := congrArg Prod.snd HR.out
      simp only [] at e1 e2
      subst e1 e2
      exact H1.out
    have q25 : (K == 25) = false := by simpa using k25
    by_cases k28 : K = 28
    case pos =>
      subst k28
      rw [dbody_28 b _ _ rfl] at hr
      obtain ⟨⟨s1, n1⟩, hv⟩ : ∃ q, dnum b vMax (1, 0) = q := ⟨_, rfl⟩
      have lt1 := dnum_lt62 b vMax (1, 0)
      have lm1 := dnum_most b vMax (1, 0)
      rw [hv] at hr lt1 lm1
      simp only [] at hr lt1 lm1
      have LT1 := Lib.hid (And.intro lt1 lm1)
      have V1 := Lib.hid hv
      clear hv lt1 lm1
      obtain ⟨⟨s2, n2⟩, hv⟩ : ∃ q, dnum b 0 s1 = q := ⟨_, rfl⟩
      have lt2 := dnum_lt62 b 0 s1
      have lm2 := dnum_most b 0 s1
      rw [hv] at hr lt2 lm2
      simp only [] at hr lt2 lm2
      have LT2 := Lib.hid (And.intro lt2 lm2)
      have V2 := Lib.hid hv
      clear hv lt2 lm2
      obtain ⟨⟨s3, n3⟩, hv⟩ : ∃ q, dnum b 0 s2 = q := ⟨_, rfl⟩
      have lt3 := dnum_lt62 b 0 s2
      have lm3 := dnum_most b 0 s2
      rw [hv] at hr lt3 lm3
      simp only [] at hr lt3 lm3
      have LT3 := Lib.hid (And.intro lt3 lm3)
      have V3 := Lib.hid hv
      clear hv lt3 lm3
      have HR := Lib.hid hr
      clear hr HRB HQ2
      have HF := Lib.hid HA.out.fs
      clear HA fF
      go_wp2_with fail
      have hn := dnumM_any b w _ (w.heap.size + 2) W (1, 0) HF.out.rs
      rw [V1.out] at hn
      refine hn.mono ?_
      rintro e w1 ⟨rfl, m, r⟩
      have h := HF.out.step m r
      obtain ⟨⟨ur, ud, uc, ut, rr⟩, fF⟩ := h.cells
      have cc : w1.cell? ⟨w.heap.size + 1, 1, none⟩ = some (.int .u64 0) := row?_cell rr 1
      have H1a := Lib.hid h
      clear h m r hn rr HF
      simp only []
      go_wp2_with fail
      have h := H1a.out.set_n n1
      clear cc fF H1a
      generalize (w1.setCell ⟨w.heap.size + 1, 1, none⟩ (.int .u64 (n1 : Nat))) = w1b at h ⊢
      have H1 := Lib.hid h
      clear h
      go_wp2_with fail
      have hn := dnum_any b w _ (w.heap.size + 2) w1b s1 0 H1.out.rs
      rw [V2.out] at hn
      refine hn.mono ?_
      rintro e w2 ⟨rfl, m, r⟩
      have h := H1.out.step m r
      have H2 := Lib.hid h
      clear h m r hn H1
      simp only []
      go_wp2_with fail
      have hn := dnum_any b w _ (w.heap.size + 2) w2 s2 0 H2.out.rs
      rw [V3.out] at hn
      refine hn.mono ?_
      rintro e w3 ⟨rfl, m, r⟩
      have h := H2.out.step m r
      have H3 := Lib.hid h
      clear h m r hn H2
      simp only []
      go_wp2_with fail
      go_meet
      have e1 := congrArg Prod.fst HR.out
      have e2 := congrArg Prod.snd HR.out
      simp only [] at e1 e2
      subst e1 e2
      exact H3.out
    have q28 : (K == 28) = false := by simpa using k28
    by_cases k26 : K = 26
    case pos =>
      subst k26
      rw [dbody_26 b _ _ (.inl rfl)] at hr
      obtain ⟨⟨s1, l1⟩, hv⟩ : ∃ q, rtake b 8 (1, 0) = q := ⟨_, rfl⟩
      rw [hv] at hr
      simp only [] at hr
      have V1 := Lib.hid hv
      clear hv
      have HR := Lib.hid hr
      clear hr HRB HQ2
      have HF := Lib.hid HA.out.fs
      clear HA fF
      go_wp2_with fail
      have hn := dtake_any b w _ (w.heap.size + 2) W (1, 0) 8 (by decide) HF.out.rs
      rw [V1.out] at hn
      refine hn.mono ?_
      rintro e w1 ⟨v1, rfl, o, m, r⟩
      have h := HF.out.step m r
      have o' := own_lower o HF.out.hN
      obtain ⟨a1, x1, rfl, -, -, -⟩ := id (Own.sl o)
      obtain ⟨⟨ur, ud, uc, ut, rr⟩, fF⟩ := h.cells
      have cc := row?_cell rr 7
      have O1 := Lib.hid o'
      have H1a := Lib.hid h
      clear h m r hn rr HF o o'
      simp only []
      go_wp2_with fail
      have h := H1a.out.set_dat _ l1 O1.out
      clear cc fF H1a O1
      generalize (w1.setCell ⟨w.heap.size + 1, 7, none⟩ (.slice a1 l1.length x1)) = w1b at h ⊢
      have H1 := Lib.hid h
      clear h
      go_meet
      have e1 := congrArg Prod.fst HR.out
      have e2 := congrArg Prod.snd HR.out
      simp only [] at e1 e2
      subst e1 e2
      exact H1.out
    have q26 : (K == 26) = false := by simpa using k26
    by_cases k27 : K = 27
    case pos =>
      subst k27
      rw [dbody_26 b _ _ (.inr rfl)] at hr
      obtain ⟨⟨s1, l1⟩, hv⟩ : ∃ q, rtake b 8 (1, 0) = q := ⟨_, rfl⟩
      rw [hv] at hr
      simp only [] at hr
      have V1 := Lib.hid hv
      clear hv
      have HR := Lib.hid hr
      clear hr HRB HQ2
      have HF := Lib.hid HA.out.fs
      clear HA fF
      go_wp2_with fail
      have hn := dtake_any b w _ (w.heap.size + 2) W (1, 0) 8 (by decide) HF.out.rs
      rw [V1.out] at hn
      refine hn.mono ?_
      rintro e w1 ⟨v1, rfl, o, m, r⟩
      have h := HF.out.step m r
      have o' := own_lower o HF.out.hN
      obtain ⟨a1, x1, rfl, -, -, -⟩ := id (Own.sl o)
      obtain ⟨⟨ur, ud, uc, ut, rr⟩, fF⟩ := h.cells
      have cc := row?_cell rr 7
      have O1 := Lib.hid o'
      have H1a := Lib.hid h
      clear h m r hn rr HF o o'
      simp only []
      go_wp2_with fail
      have h := H1a.out.set_dat _ l1 O1.out
      clear cc fF H1a O1
      generalize (w1.setCell ⟨w.heap.size + 1, 7, none⟩ (.slice a1 l1.length x1)) = w1b at h ⊢
      have H1 := Lib.hid h
      clear h
      go_meet
      have e1 := congrArg Prod.fst HR.out
      have e2 := congrArg Prod.snd HR.out
      simp only [] at e1 e2
      subst e1 e2
      exact H1.out
    have q27 : (K == 27) = false := by simpa using k27
    by_cases k24 : K = 24
    case pos =>
      subst k24
      rw [dbody_24 b _ _ rfl] at hr
      unfold dcid at hr
      simp only [] at hr
      obtain ⟨⟨s1, n1⟩, hv⟩ : ∃ q, dnum b vMax (1, 0) = q := ⟨_, rfl⟩
      have lt1 := dnum_lt62 b vMax (1, 0)
      have lm1 := dnum_most b vMax (1, 0)
      rw [hv] at hr lt1 lm1
      simp only [] at hr lt1 lm1
      have LT1 := Lib.hid (And.intro lt1 lm1)
      have V1 := Lib.hid hv
      clear hv lt1 lm1
      obtain ⟨⟨s2, n2⟩, hv⟩ : ∃ q, dnum b 0 s1 = q := ⟨_, rfl⟩
      have lt2 := dnum_lt62 b 0 s1
      have lm2 := dnum_most b 0 s1
      rw [hv] at hr lt2 lm2
      simp only [] at hr lt2 lm2
      have LT2 := Lib.hid (And.intro lt2 lm2)
      have V2 := Lib.hid hv
      clear hv lt2 lm2
      obtain ⟨⟨s3, l3⟩, hv⟩ : ∃ q, rtake b 1 s2 = q := ⟨_, rfl⟩
      rw [hv] at hr
      simp only [] at hr
      have V3 := Lib.hid hv
      clear hv
      have HR0 := Lib.hid hr
      clear hr HRB HQ2
      have HF := Lib.hid HA.out.fs
      clear HA fF
      go_wp2_with fail
      have hn := dnumM_any b w _ (w.heap.size + 2) W (1, 0) HF.out.rs
      rw [V1.out] at hn
      refine hn.mono ?_
      rintro e w1 ⟨rfl, m, r⟩
      have h := HF.out.step m r
      obtain ⟨⟨ur, ud, uc, ut, rr⟩, fF⟩ := h.cells
      have cc : w1.cell? ⟨w.heap.size + 1, 1, none⟩ = some (.int .u64 0) := row?_cell rr 1
      have H1a := Lib.hid h
      clear h m r hn rr HF
      simp only []
      go_wp2_with fail
      have h := H1a.out.set_n n1
      clear cc fF H1a
      generalize (w1.setCell ⟨w.heap.size + 1, 1, none⟩ (.int .u64 (n1 : Nat))) = w1b at h ⊢
      have H1 := Lib.hid h
      clear h
      go_wp2_with fail
      have hn := dnum_any b w _ (w.heap.size + 2) w1b s1 0 H1.out.rs
      rw [V2.out] at hn
      refine hn.mono ?_
      rintro e w2 ⟨rfl, m, r⟩
      have h := H1.out.step m r
      have H2 := Lib.hid h
      clear h m r hn H1
      simp only []
      go_wp2_with fail
      have hn := dtake_any b w _ (w.heap.size + 2) w2 s2 1 (by decide) H2.out.rs
      rw [V3.out] at hn
      refine hn.mono ?_
      rintro e w3 ⟨v3, rfl, o, m, r⟩
      have h := H2.out.step m r
      have o' := own_lower o H2.out.hN
      obtain ⟨a3, x3, rfl, -, -, -⟩ := id (Own.sl o)
      have O3 := Lib.hid o'
      have H3 := Lib.hid h
      clear h m r hn H2 o o'
      simp only []
      obtain ⟨at3, er3⟩ := s3
      have c2 : w3.cell? ⟨w.heap.size + 2, 2, none⟩ = some (.int .i64 er3) := row?_cell H3.out.rs.row 2
      have fB := row?_frozen H3.out.rs.row
      by_cases z3 : er3 = 0
      case neg =>
        have q3 : (er3 == 0) = false := by simpa using z3
        have hr := HR0.out
        rw [if_neg (fun h => z3 h.1)] at hr
        have Z3 := Lib.hid z3
        clear z3
        obtain ⟨⟨s4, l4⟩, hv⟩ : ∃ q, rtake b 8 (at3, er3) = q := ⟨_, rfl⟩
        rw [hv] at hr
        simp only [] at hr
        have V4 := Lib.hid hv
        clear hv
        obtain ⟨⟨s5, l5⟩, hv⟩ : ∃ q, rtake b 16 s4 = q := ⟨_, rfl⟩
        rw [hv] at hr
        simp only [] at hr
        have V5 := Lib.hid hv
        clear hv
        have HR := Lib.hid hr
        clear hr HR0
        go_wp2_with fail
        have hn := dtake_any b w _ (w.heap.size + 2) w3 (at3, er3) 8 (by decide) H3.out.rs
        rw [V4.out] at hn
        refine hn.mono ?_
        rintro e w4 ⟨v4, rfl, o, m, r⟩
        have h := H3.out.step m r
        have o' := own_lower o H3.out.hN
        obtain ⟨a4, x4, rfl, -, -, -⟩ := id (Own.sl o)
        obtain ⟨⟨ur, ud, uc, ut, rr⟩, fF⟩ := h.cells
        have cc := row?_cell rr 8
        have O4 := Lib.hid o'
        have H4a := Lib.hid h
        clear h m r hn rr H3 o o'
        simp only []
        go_wp2_with fail
        have h := H4a.out.set_cid _ l4 O4.out
        clear cc fF H4a O4
        generalize (w4.setCell ⟨w.heap.size + 1, 8, none⟩ (.slice a4 l4.length x4)) = w4b at h ⊢
        have H4 := Lib.hid h
        clear h
        go_wp2_with fail
        have hn := dtake_any b w _ (w.heap.size + 2) w4b s4 16 (by decide) H4.out.rs
        rw [V5.out] at hn
        refine hn.mono ?_
        rintro e w5 ⟨v5, rfl, o, m, r⟩
        have h := H4.out.step m r
        have o' := own_lower o H4.out.hN
        obtain ⟨a5, x5, rfl, -, -, -⟩ := id (Own.sl o)
        obtain ⟨⟨ur, ud, uc, ut, rr⟩, fF⟩ := h.cells
        have cc := row?_cell rr 9
        have O5 := Lib.hid o'
        have H5a := Lib.hid h
        clear h m r hn rr H4 o o'
        simp only []
        go_wp2_with fail
        have h := H5a.out.set_tok _ l5 O5.out
        clear cc fF H5a O5
        generalize (w5.setCell ⟨w.heap.size + 1, 9, none⟩ (.slice a5 l5.length x5)) = w5b at h ⊢
        have H5 := Lib.hid h
        clear h
        go_meet
        have e1 := congrArg Prod.fst HR.out
        have e2 := congrArg Prod.snd HR.out
        simp only [] at e1 e2
        subst e1 e2
        exact H5.out
      subst z3
      have len3 : l3.length = 1 := by
        have h := rtake_full (b := b) (n := 1) (s := s2) (by rw [V3.out])
        rw [V3.out] at h
        exact h
      obtain ⟨g3, o3, rfl, hc3⟩ : ∃ g3 o3, a3 = some ⟨g3, o3, none⟩ ∧ w3.cell? ⟨g3, o3, none⟩ = some (.int .u8 (n8 (nth l3 0) : Nat)) := by
        obtain ⟨a, x, e, -, -, hp⟩ := id (Own.sl O3.out)
        injection e with e1
        subst e1
        obtain ⟨b', o', rfl, hcl⟩ := hp (by rw [len3]; decide)
        exact ⟨b', o', rfl, hcl 0 (by rw [len3]; decide)⟩
      rw [len3]
      obtain ⟨y3, hy3⟩ : ∃ y, nth l3 0 = y := ⟨_, rfl⟩
      have hr := HR0.out
      rw [hy3] at hr hc3
      have L3 := Lib.hid (And.intro len3 hy3)
      clear len3 hy3
      by_cases z3 : y3 = 8
      case pos =>
        have q3 : (y3 != 8) = false := by rw [z3]; rfl
        rw [if_neg (fun h => h.2 z3)] at hr
        have Z3 := Lib.hid z3
        clear z3
        obtain ⟨⟨s4, l4⟩, hv⟩ : ∃ q, rtake b 8 (at3, 0) = q := ⟨_, rfl⟩
        rw [hv] at hr
        simp only [] at hr
        have V4 := Lib.hid hv
        clear hv
        obtain ⟨⟨s5, l5⟩, hv⟩ : ∃ q, rtake b 16 s4 = q := ⟨_, rfl⟩
        rw [hv] at hr
        simp only [] at hr
        have V5 := Lib.hid hv
        clear hv
        have HR := Lib.hid hr
        clear hr HR0
        go_wp2_with fail
        have hn := dtake_any b w _ (w.heap.size + 2) w3 (at3, 0) 8 (by decide) H3.out.rs
        rw [V4.out] at hn
        refine hn.mono ?_
        rintro e w4 ⟨v4, rfl, o, m, r⟩
        have h := H3.out.step m r
        have o' := own_lower o H3.out.hN
        obtain ⟨a4, x4, rfl, -, -, -⟩ := id (Own.sl o)
        obtain ⟨⟨ur, ud, uc, ut, rr⟩, fF⟩ := h.cells
        have cc := row?_cell rr 8
        have O4 := Lib.hid o'
        have H4a := Lib.hid h
        clear h m r hn rr H3 o o'
        simp only []
        go_wp2_with fail
        have h := H4a.out.set_cid _ l4 O4.out
        clear cc fF H4a O4
        generalize (w4.setCell ⟨w.heap.size + 1, 8, none⟩ (.slice a4 l4.length x4)) = w4b at h ⊢
        have H4 := Lib.hid h
        clear h
        go_wp2_with fail
        have hn := dtake_any b w _ (w.heap.size + 2) w4b s4 16 (by decide) H4.out.rs
        rw [V5.out] at hn
        refine hn.mono ?_
        rintro e w5 ⟨v5, rfl, o, m, r⟩
        have h := H4.out.step m r
        have o' := own_lower o H4.out.hN
        obtain ⟨a5, x5, rfl, -, -, -⟩ := id (Own.sl o)
        obtain ⟨⟨ur, ud, uc, ut, rr⟩, fF⟩ := h.cells
        have cc := row?_cell rr 9
        have O5 := Lib.hid o'
        have H5a := Lib.hid h
        clear h m r hn rr H4 o o'
        simp only []
        go_wp2_with fail
        have h := H5a.out.set_tok _ l5 O5.out
        clear cc fF H5a O5
        generalize (w5.setCell ⟨w.heap.size + 1, 9, none⟩ (.slice a5 l5.length x5)) = w5b at h ⊢
        have H5 := Lib.hid h
        clear h
        go_meet
        have e1 := congrArg Prod.fst HR.out
        have e2 := congrArg Prod.snd HR.out
        simp only [] at e1 e2
        subst e1 e2
        exact H5.out
      have q3 : (y3 != 8) = true := by simpa using z3
      rw [if_pos ⟨rfl, z3⟩] at hr
      have Z3 := Lib.hid z3
      clear z3
      go_wp2_with fail
      have mE : Mut (w.heap.size + 2) w3 (w3.setCell ⟨w.heap.size + 2, 2, none⟩ (.int .i64 5)) := (Mut.refl _ _).setCell _ _ _
      have hE := H3.out.step mE (H3.out.rs.mut (s' := (at3, 5)) mE (by rw [row?_setCell_eq H3.out.rs.row]; rfl) H3.out.rs.at_)
      clear c2 fB hc3 q3
      generalize (w3.setCell ⟨w.heap.size + 2, 2, none⟩ (.int .i64 5)) = wE at hE ⊢
      have HE := Lib.hid hE
      clear mE hE H3
      obtain ⟨⟨s4, l4⟩, hv⟩ : ∃ q, rtake b 8 (at3, 5) = q := ⟨_, rfl⟩
      rw [hv] at hr
      simp only [] at hr
      have V4 := Lib.hid hv
      clear hv
      obtain ⟨⟨s5, l5⟩, hv⟩ : ∃ q, rtake b 16 s4 = q := ⟨_, rfl⟩
      rw [hv] at hr
      simp only [] at hr
      have V5 := Lib.hid hv
      clear hv
      have HR := Lib.hid hr
      clear hr HR0
      go_wp2_with fail
      have hn := dtake_any b w _ (w.heap.size + 2) wE (at3, 5) 8 (by decide) HE.out.rs
      rw [V4.out] at hn
      refine hn.mono ?_
      rintro e w4 ⟨v4, rfl, o, m, r⟩
      have h := HE.out.step m r
      have o' := own_lower o HE.out.hN
      obtain ⟨a4, x4, rfl, -, -, -⟩ := id (Own.sl o)
      obtain ⟨⟨ur, ud, uc, ut, rr⟩, fF⟩ := h.cells
      have cc := row?_cell rr 8
      have O4 := Lib.hid o'
      have H4a := Lib.hid h
      clear h m r hn rr HE o o'
      simp only []
      go_wp2_with fail
      have h := H4a.out.set_cid _ l4 O4.out
      clear cc fF H4a O4
      generalize (w4.setCell ⟨w.heap.size + 1, 8, none⟩ (.slice a4 l4.length x4)) = w4b at h ⊢
      have H4 := Lib.hid h
      clear h
      go_wp2_with fail
      have hn := dtake_any b w _ (w.heap.size + 2) w4b s4 16 (by decide) H4.out.rs
      rw [V5.out] at hn
      refine hn.mono ?_
      rintro e w5 ⟨v5, rfl, o, m, r⟩
      have h := H4.out.step m r
      have o' := own_lower o H4.out.hN
      obtain ⟨a5, x5, rfl, -, -, -⟩ := id (Own.sl o)
      obtain ⟨⟨ur, ud, uc, ut, rr⟩, fF⟩ := h.cells
      have cc := row?_cell rr 9
      have O5 := Lib.hid o'
      have H5a := Lib.hid h
      clear h m r hn rr H4 o o'
      simp only []
      go_wp2_with fail
      have h := H5a.out.set_tok _ l5 O5.out
      clear cc fF H5a O5
      generalize (w5.setCell ⟨w.heap.size + 1, 9, none⟩ (.slice a5 l5.length x5)) = w5b at h ⊢
      have H5 := Lib.hid h
      clear h
      go_meet
      have e1 := congrArg Prod.fst HR.out
      have e2 := congrArg Prod.snd HR.out
      simp only [] at e1 e2
      subst e1 e2
      exact H5.out
    have q24 : (K == 24) = false := by simpa using k24
    by_cases k6 : K = 6
    case pos =>
      subst k6
      rw [dbody_6 b _ _ rfl] at hr
      unfold dbytes at hr
      simp only [] at hr
      obtain ⟨⟨s1, n1⟩, hv⟩ : ∃ q, dnum b vMax (1, 0) = q := ⟨_, rfl⟩
      have lt1 := dnum_lt62 b vMax (1, 0)
      have lm1 := dnum_most b vMax (1, 0)
      rw [hv] at hr lt1 lm1
      simp only [] at hr lt1 lm1
      have LT1 := Lib.hid (And.intro lt1 lm1)
      have V1 := Lib.hid hv
      clear hv lt1 lm1
      obtain ⟨⟨s2, n2⟩, hv⟩ : ∃ q, dnum b 16383 s1 = q := ⟨_, rfl⟩
      have lt2 := dnum_lt62 b 16383 s1
      have lm2 := dnum_most b 16383 s1
      rw [hv] at hr lt2 lm2
      simp only [] at hr lt2 lm2
      have LT2 := Lib.hid (And.intro lt2 lm2)
      have V2 := Lib.hid hv
      clear hv lt2 lm2
      have HR0 := Lib.hid hr
      clear hr HRB HQ2
      have HF := Lib.hid HA.out.fs
      clear HA fF
      go_wp2_with fail
      have hn := dnumM_any b w _ (w.heap.size + 2) W (1, 0) HF.out.rs
      rw [V1.out] at hn
      refine hn.mono ?_
      rintro e w1 ⟨rfl, m, r⟩
      have h := HF.out.step m r
      obtain ⟨⟨ur, ud, uc, ut, rr⟩, fF⟩ := h.cells
      have cc : w1.cell? ⟨w.heap.size + 1, 5, none⟩ = some (.int .u64 0) := row?_cell rr 5
      have H1a := Lib.hid h
      clear h m r hn rr HF
      simp only []
      go_wp2_with fail
      have h := H1a.out.set_o n1
      clear cc fF H1a
      generalize (w1.setCell ⟨w.heap.size + 1, 5, none⟩ (.int .u64 (n1 : Nat))) = w1b at h ⊢
      have H1 := Lib.hid h
      clear h
      go_wp2_with fail
      have hn := dnum_any b w _ (w.heap.size + 2) w1b s1 16383 H1.out.rs
      rw [V2.out] at hn
      refine hn.mono ?_
      rintro e w2 ⟨rfl, m, r⟩
      have h := H1.out.step m r
      have H2 := Lib.hid h
      clear h m r hn H1
      simp only []
      obtain ⟨at2, er2⟩ := s2
      have c2 : w2.cell? ⟨w.heap.size + 2, 2, none⟩ = some (.int .i64 er2) := row?_cell H2.out.rs.row 2
      have fB := row?_frozen H2.out.rs.row
      obtain ⟨⟨ur, ud, uc, ut, rr⟩, fF⟩ := H2.out.cells
      have c5 : w2.cell? ⟨w.heap.size + 1, 5, none⟩ = some (.int .u64 (n1 : Nat)) := row?_cell rr 5
      have hwn : wrap64 ((n2 : Nat) : Int) = (n2 : Nat) := by have := LT2.out; unfold wrap64; omega
      clear rr
      by_cases z : er2 = 0
      case neg =>
        have qz : (er2 == 0) = false := by simpa using z
        have hr := HR0.out
        rw [if_neg (fun h => z h.1)] at hr
        have Z := Lib.hid z
        clear z
        obtain ⟨⟨s3, l3⟩, hv⟩ : ∃ q, rtake b n2 (at2, er2) = q := ⟨_, rfl⟩
        rw [hv] at hr
        simp only [] at hr
        have V3 := Lib.hid hv
        clear hv
        have HR := Lib.hid hr
        clear hr HR0
        go_wp2_with fail
        have hn := dtake_any b w _ (w.heap.size + 2) w2 (at2, er2) n2 LT2.out.1 H2.out.rs
        rw [V3.out] at hn
        refine hn.mono ?_
        rintro e w3 ⟨v3, rfl, o, m, r⟩
        have h := H2.out.step m r
        have o' := own_lower o H2.out.hN
        obtain ⟨a3, x3, rfl, -, -, -⟩ := id (Own.sl o)
        obtain ⟨⟨ur, ud, uc, ut, rr⟩, fF⟩ := h.cells
        have cc := row?_cell rr 7
        have O3 := Lib.hid o'
        have H3a := Lib.hid h
        clear h m r hn rr H2 o o'
        simp only []
        go_wp2_with fail
        have h := H3a.out.set_dat _ l3 O3.out
        clear cc fF H3a O3
        generalize (w3.setCell ⟨w.heap.size + 1, 7, none⟩ (.slice a3 l3.length x3)) = w3b at h ⊢
        have H3 := Lib.hid h
        clear h
        go_meet
        have e1 := congrArg Prod.fst HR.out
        have e2 := congrArg Prod.snd HR.out
        simp only [] at e1 e2
        subst e1 e2
        exact H3.out
      subst z
      obtain ⟨y, hy, hyv⟩ : ∃ y : Nat, IntKind.u64.wrap (4611686018427387903 - (n2 : Int)) = y ∧ y = vMax - n2 := ⟨vMax - n2, by have := LT2.out; unfold vMax; simp only [IntKind.wrap_u64]; omega, rfl⟩
      have hr := HR0.out
      rw [← hyv] at hr
      have HY := Lib.hid hyv
      clear hyv
      by_cases z : y < n1
      case neg =>
        have p1 : decide (y < n1) = false := decide_eq_false z
        have p2 : decide ((y : Int) < (n1 : Int)) = false := decide_eq_false (by omega)
        rw [if_neg (fun h => z h.2)] at hr
        have Z := Lib.hid z
        clear z
        obtain ⟨⟨s3, l3⟩, hv⟩ : ∃ q, rtake b n2 (at2, 0) = q := ⟨_, rfl⟩
        rw [hv] at hr
        simp only [] at hr
        have V3 := Lib.hid hv
        clear hv
        have HR := Lib.hid hr
        clear hr HR0
        go_wp2_with fail
        have hn := dtake_any b w _ (w.heap.size + 2) w2 (at2, 0) n2 LT2.out.1 H2.out.rs
        rw [V3.out] at hn
        refine hn.mono ?_
        rintro e w3 ⟨v3, rfl, o, m, r⟩
        have h := H2.out.step m r
        have o' := own_lower o H2.out.hN
        obtain ⟨a3, x3, rfl, -, -, -⟩ := id (Own.sl o)
        obtain ⟨⟨ur, ud, uc, ut, rr⟩, fF⟩ := h.cells
        have cc := row?_cell rr 7
        have O3 := Lib.hid o'
        have H3a := Lib.hid h
        clear h m r hn rr H2 o o'
        simp only []
        go_wp2_with fail
        have h := H3a.out.set_dat _ l3 O3.out
        clear cc fF H3a O3
        generalize (w3.setCell ⟨w.heap.size + 1, 7, none⟩ (.slice a3 l3.length x3)) = w3b at h ⊢
        have H3 := Lib.hid h
        clear h
        go_meet
        have e1 := congrArg Prod.fst HR.out
        have e2 := congrArg Prod.snd HR.out
        simp only [] at e1 e2
        subst e1 e2
        exact H3.out
      have p1 : decide (y < n1) = true := decide_eq_true z
      have p2 : decide ((y : Int) < (n1 : Int)) = true := decide_eq_true (by omega)
      rw [if_pos ⟨rfl, z⟩] at hr
      have Z := Lib.hid z
      clear z
      go_wp2_with fail
      have mE : Mut (w.heap.size + 2) w2 (w2.setCell ⟨w.heap.size + 2, 2, none⟩ (.int .i64 5)) := (Mut.refl _ _).setCell _ _ _
      have hE := H2.out.step mE (H2.out.rs.mut (s' := (at2, 5)) mE (by rw [row?_setCell_eq H2.out.rs.row]; rfl) H2.out.rs.at_)
      clear c2 fB c5 fF p1 p2 hy
      generalize (w2.setCell ⟨w.heap.size + 2, 2, none⟩ (.int .i64 5)) = wE at hE ⊢
      have HE := Lib.hid hE
      clear mE hE H2
      obtain ⟨⟨s3, l3⟩, hv⟩ : ∃ q, rtake b n2 (at2, 5) = q := ⟨_, rfl⟩
      rw [hv] at hr
      simp only [] at hr
      have V3 := Lib.hid hv
      clear hv
      have HR := Lib.hid hr
      clear hr HR0
      go_wp2_with fail
      have hn := dtake_any b w _ (w.heap.size + 2) wE (at2, 5) n2 LT2.out.1 HE.out.rs
      rw [V3.out] at hn
      refine hn.mono ?_
      rintro e w3 ⟨v3, rfl, o, m, r⟩
      have h := HE.out.step m r
      have o' := own_lower o HE.out.hN
      obtain ⟨a3, x3, rfl, -, -, -⟩ := id (Own.sl o)
      obtain ⟨⟨ur, ud, uc, ut, rr⟩, fF⟩ := h.cells
      have cc := row?_cell rr 7
      have O3 := Lib.hid o'
      have H3a := Lib.hid h
      clear h m r hn rr HE o o'
      simp only []
      go_wp2_with fail
      have h := H3a.out.set_dat _ l3 O3.out
      clear cc fF H3a O3
      generalize (w3.setCell ⟨w.heap.size + 1, 7, none⟩ (.slice a3 l3.length x3)) = w3b at h ⊢
      have H3 := Lib.hid h
      clear h
      go_meet
      have e1 := congrArg Prod.fst HR.out
      have e2 := congrArg Prod.snd HR.out
      simp only [] at e1 e2
      subst e1 e2
      exact H3.out
    have q6 : (K == 6) = false := by simpa using k6
    by_cases k14 : K = 14
    case pos =>
      subst k14
      rw [dbody_14 b _ _ (.inl rfl)] at hr
      obtain ⟨⟨s1, n1⟩, hv⟩ : ∃ q, dnum b vMax (1, 0) = q := ⟨_, rfl⟩
      have lt1 := dnum_lt62 b vMax (1, 0)
      have lm1 := dnum_most b vMax (1, 0)
      rw [hv] at hr lt1 lm1
      simp only [] at hr lt1 lm1
      have LT1 := Lib.hid (And.intro lt1 lm1)
      have V1 := Lib.hid hv
      clear hv lt1 lm1
      have HR00 := Lib.hid hr
      clear hr HRB HQ2
      have HF0 := Lib.hid HA.out.fs
      clear HA
      obtain ⟨⟨ur, ud, uc, ut, rr8⟩, f8⟩ := (HF0.out.set_k 8).cells
      have c8 : (W.setCell ⟨w.heap.size + 1, 0, none⟩ (.int .i64 8)).cell? ⟨w.heap.size + 1, 6, none⟩ = some (.bool false) := row?_cell rr8 6
      clear rr8
      go_wp2_with fail
      have h := (HF0.out.set_k 8).set_fin false
      clear cK fF fB HF0 c8 f8
      generalize ((W.setCell ⟨w.heap.size + 1, 0, none⟩ (.int .i64 8)).setCell ⟨w.heap.size + 1, 6, none⟩ (.bool false)) = WB at h ⊢
      have HF := Lib.hid h
      clear h
      have hn := dnumM_any b w _ (w.heap.size + 2) WB (1, 0) HF.out.rs
      rw [V1.out] at hn
      refine hn.mono ?_
      rintro e w1 ⟨rfl, m, r⟩
      have h := HF.out.step m r
      obtain ⟨⟨ur, ud, uc, ut, rr⟩, fF⟩ := h.cells
      have cc : w1.cell? ⟨w.heap.size + 1, 4, none⟩ = some (.int .u64 0) := row?_cell rr 4
      have H1a := Lib.hid h
      clear h m r hn rr HF
      simp only []
      go_wp2_with fail
      have h := H1a.out.set_i n1
      clear cc fF H1a
      generalize (w1.setCell ⟨w.heap.size + 1, 4, none⟩ (.int .u64 (n1 : Nat))) = w1b at h ⊢
      have H1 := Lib.hid h
      clear h
      have hr := HR00.out
      clear HR00
      unfold dbytes at hr
      simp only [] at hr
      obtain ⟨⟨s2, n2⟩, hv⟩ : ∃ q, dnum b vMax s1 = q := ⟨_, rfl⟩
      have lt2 := dnum_lt62 b vMax s1
      have lm2 := dnum_most b vMax s1
      rw [hv] at hr lt2 lm2
      simp only [] at hr lt2 lm2
      have LT2 := Lib.hid (And.intro lt2 lm2)
      have V2 := Lib.hid hv
      clear hv lt2 lm2
      obtain ⟨⟨s3, n3⟩, hv⟩ : ∃ q, dnum b 16383 s2 = q := ⟨_, rfl⟩
      have lt3 := dnum_lt62 b 16383 s2
      have lm3 := dnum_most b 16383 s2
      rw [hv] at hr lt3 lm3
      simp only [] at hr lt3 lm3
      have LT3 := Lib.hid (And.intro lt3 lm3)
      have V3 := Lib.hid hv
      clear hv lt3 lm3
      have HR0 := Lib.hid hr
      clear hr
      go_wp2_with fail
      have hn := dnumM_any b w _ (w.heap.size + 2) w1b s1 H1.out.rs
      rw [V2.out] at hn
      refine hn.mono ?_
      rintro e w2 ⟨rfl, m, r⟩
      have h := H1.out.step m r
      obtain ⟨⟨ur, ud, uc, ut, rr⟩, fF⟩ := h.cells
      have cc : w2.cell? ⟨w.heap.size + 1, 5, none⟩ = some (.int .u64 0) := row?_cell rr 5
      have H2a := Lib.hid h
      clear h m r hn rr H1
      simp only []
      go_wp2_with fail
      have h := H2a.out.set_o n2
      clear cc fF H2a
      generalize (w2.setCell ⟨w.heap.size + 1, 5, none⟩ (.int .u64 (n2 : Nat))) = w2b at h ⊢
      have H2 := Lib.hid h
      clear h
      go_wp2_with fail
      have hn := dnum_any b w _ (w.heap.size + 2) w2b s2 16383 H2.out.rs
      rw [V3.out] at hn
      refine hn.mono ?_
      rintro e w3 ⟨rfl, m, r⟩
      have h := H2.out.step m r
      have H3 := Lib.hid h
      clear h m r hn H2
      simp only []
      obtain ⟨at3, er3⟩ := s3
      have c2 : w3.cell? ⟨w.heap.size + 2, 2, none⟩ = some (.int .i64 er3) := row?_cell H3.out.rs.row 2
      have fB := row?_frozen H3.out.rs.row
      obtain ⟨⟨ur, ud, uc, ut, rr⟩, fF⟩ := H3.out.cells
      have c5 : w3.cell? ⟨w.heap.size + 1, 5, none⟩ = some (.int .u64 (n2 : Nat)) := row?_cell rr 5
      have hwn : wrap64 ((n3 : Nat) : Int) = (n3 : Nat) := by have := LT3.out; unfold wrap64; omega
      clear rr
      by_cases z : er3 = 0
      case neg =>
        have qz : (er3 == 0) = false := by simpa using z
        have hr := HR0.out
        rw [if_neg (fun h => z h.1)] at hr
        have Z := Lib.hid z
        clear z
        obtain ⟨⟨s4, l4⟩, hv⟩ : ∃ q, rtake b n3 (at3, er3) = q := ⟨_, rfl⟩
        rw [hv] at hr
        simp only [] at hr
        have V4 := Lib.hid hv
        clear hv
        have HR := Lib.hid hr
        clear hr HR0
        go_wp2_with fail
        have hn := dtake_any b w _ (w.heap.size + 2) w3 (at3, er3) n3 LT3.out.1 H3.out.rs
        rw [V4.out] at hn
        refine hn.mono ?_
        rintro e w4 ⟨v4, rfl, o, m, r⟩
        have h := H3.out.step m r
        have o' := own_lower o H3.out.hN
        obtain ⟨a4, x4, rfl, -, -, -⟩ := id (Own.sl o)
        obtain ⟨⟨ur, ud, uc, ut, rr⟩, fF⟩ := h.cells
        have cc := row?_cell rr 7
        have O4 := Lib.hid o'
        have H4a := Lib.hid h
        clear h m r hn rr H3 o o'
        simp only []
        go_wp2_with fail
        have h := H4a.out.set_dat _ l4 O4.out
        clear cc fF H4a O4
        generalize (w4.setCell ⟨w.heap.size + 1, 7, none⟩ (.slice a4 l4.length x4)) = w4b at h ⊢
        have H4 := Lib.hid h
        clear h
        go_meet
        have e1 := congrArg Prod.fst HR.out
        have e2 := congrArg Prod.snd HR.out
        simp only [] at e1 e2
        subst e1 e2
        exact H4.out
      subst z
      obtain ⟨y, hy, hyv⟩ : ∃ y : Nat, IntKind.u64.wrap (4611686018427387903 - (n3 : Int)) = y ∧ y = vMax - n3 := ⟨vMax - n3, by have := LT3.out; unfold vMax; simp only [IntKind.wrap_u64]; omega, rfl⟩
      have hr := HR0.out
      rw [← hyv] at hr
      have HY := Lib.hid hyv
      clear hyv
      by_cases z : y < n2
      case neg =>
        have p1 : decide (y < n2) = false := decide_eq_false z
        have p2 : decide ((y : Int) < (n2 : Int)) = false := decide_eq_false (by omega)
        rw [if_neg (fun h => z h.2)] at hr
        have Z := Lib.hid z
        clear z
        obtain ⟨⟨s4, l4⟩, hv⟩ : ∃ q, rtake b n3 (at3, 0) = q := ⟨_, rfl⟩
        rw [hv] at hr
        simp only [] at hr
        have V4 := Lib.hid hv
        clear hv
        have HR := Lib.hid hr
        clear hr HR0
        go_wp2_with fail
        have hn := dtake_any b w _ (w.heap.size + 2) w3 (at3, 0) n3 LT3.out.1 H3.out.rs
        rw [V4.out] at hn
        refine hn.mono ?_
        rintro e w4 ⟨v4, rfl, o, m, r⟩
        have h := H3.out.step m r
        have o' := own_lower o H3.out.hN
        obtain ⟨a4, x4, rfl, -, -, -⟩ := id (Own.sl o)
        obtain ⟨⟨ur, ud, uc, ut, rr⟩, fF⟩ := h.cells
        have cc := row?_cell rr 7
        have O4 := Lib.hid o'
        have H4a := Lib.hid h
        clear h m r hn rr H3 o o'
        simp only []
        go_wp2_with fail
        have h := H4a.out.set_dat _ l4 O4.out
        clear cc fF H4a O4
        generalize (w4.setCell ⟨w.heap.size + 1, 7, none⟩ (.slice a4 l4.length x4)) = w4b at h ⊢
        have H4 := Lib.hid h
        clear h
        go_meet
        have e1 := congrArg Prod.fst HR.out
        have e2 := congrArg Prod.snd HR.out
        simp only [] at e1 e2
        subst e1 e2
        exact H4.out
      have p1 : decide (y < n2) = true := decide_eq_true z
      have p2 : decide ((y : Int) < (n2 : Int)) = true := decide_eq_true (by omega)
      rw [if_pos ⟨rfl, z⟩] at hr
      have Z := Lib.hid z
      clear z
      go_wp2_with fail
      have mE : Mut (w.heap.size + 2) w3 (w3.setCell ⟨w.heap.size + 2, 2, none⟩ (.int .i64 5)) := (Mut.refl _ _).setCell _ _ _
      have hE := H3.out.step mE (H3.out.rs.mut (s' := (at3, 5)) mE (by rw [row?_setCell_eq H3.out.rs.row]; rfl) H3.out.rs.at_)
      clear c2 fB c5 fF p1 p2 hy
      generalize (w3.setCell ⟨w.heap.size + 2, 2, none⟩ (.int .i64 5)) = wE at hE ⊢
      have HE := Lib.hid hE
      clear mE hE H3
      obtain ⟨⟨s4, l4⟩, hv⟩ : ∃ q, rtake b n3 (at3, 5) = q := ⟨_, rfl⟩
      rw [hv] at hr
      simp only [] at hr
      have V4 := Lib.hid hv
      clear hv
      have HR := Lib.hid hr
      clear hr HR0
      go_wp2_with fail
      have hn := dtake_any b w _ (w.heap.size + 2) wE (at3, 5) n3 LT3.out.1 HE.out.rs
      rw [V4.out] at hn
      refine hn.mono ?_
      rintro e w4 ⟨v4, rfl, o, m, r⟩
      have h := HE.out.step m r
      have o' := own_lower o HE.out.hN
      obtain ⟨a4, x4, rfl, -, -, -⟩ := id (Own.sl o)
      obtain ⟨⟨ur, ud, uc, ut, rr⟩, fF⟩ := h.cells
      have cc := row?_cell rr 7
      have O4 := Lib.hid o'
      have H4a := Lib.hid h
      clear h m r hn rr HE o o'
      simp only []
      go_wp2_with fail
      have h := H4a.out.set_dat _ l4 O4.out
      clear cc fF H4a O4
      generalize (w4.setCell ⟨w.heap.size + 1, 7, none⟩ (.slice a4 l4.length x4)) = w4b at h ⊢
      have H4 := Lib.hid h
      clear h
      go_meet
      have e1 := congrArg Prod.fst HR.out
      have e2 := congrArg Prod.snd HR.out
      simp only [] at e1 e2
      subst e1 e2
      exact H4.out
    have q14 : (K == 14) = false := by simpa using k14
    by_cases k15 : K = 15
    case pos =>
      subst k15
      rw [dbody_14 b _ _ (.inr rfl)] at hr
      obtain ⟨⟨s1, n1⟩, hv⟩ : ∃ q, dnum b vMax (1, 0) = q := ⟨_, rfl⟩
      have lt1 := dnum_lt62 b vMax (1, 0)
      have lm1 := dnum_most b vMax (1, 0)
      rw [hv] at hr lt1 lm1
      simp only [] at hr lt1 lm1
      have LT1 := Lib.hid (And.intro lt1 lm1)
      have V1 := Lib.hid hv
      clear hv lt1 lm1
      have HR00 := Lib.hid hr
      clear hr HRB HQ2
      have HF0 := Lib.hid HA.out.fs
      clear HA
      obtain ⟨⟨ur, ud, uc, ut, rr8⟩, f8⟩ := (HF0.out.set_k 8).cells
      have c8 : (W.setCell ⟨w.heap.size + 1, 0, none⟩ (.int .i64 8)).cell? ⟨w.heap.size + 1, 6, none⟩ = some (.bool false) := row?_cell rr8 6
      clear rr8
      go_wp2_with fail
      have h := (HF0.out.set_k 8).set_fin true
      clear cK fF fB HF0 c8 f8
      generalize ((W.setCell ⟨w.heap.size + 1, 0, none⟩ (.int .i64 8)).setCell ⟨w.heap.size + 1, 6, none⟩ (.bool true)) = WB at h ⊢
      have HF := Lib.hid h
      clear h
      have hn := dnumM_any b w _ (w.heap.size + 2) WB (1, 0) HF.out.rs
      rw [V1.out] at hn
      refine hn.mono ?_
      rintro e w1 ⟨rfl, m, r⟩
      have h := HF.out.step m r
      obtain ⟨⟨ur, ud, uc, ut, rr⟩, fF⟩ := h.cells
      have cc : w1.cell? ⟨w.heap.size + 1, 4, none⟩ = some (.int .u64 0) := row?_cell rr 4
      have H1a := Lib.hid h
      clear h m r hn rr HF
      simp only []
      go_wp2_with fail
      have h := H1a.out.set_i n1
      clear cc fF H1a
      generalize (w1.setCell ⟨w.heap.size + 1, 4, none⟩ (.int .u64 (n1 : Nat))) = w1b at h ⊢
      have H1 := Lib.hid h
      clear h
      have hr := HR00.out
      clear HR00
      unfold dbytes at hr
      simp only [] at hr
      obtain ⟨⟨s2, n2⟩, hv⟩ : ∃ q, dnum b vMax s1 = q := ⟨_, rfl⟩
      have lt2 := dnum_lt62 b vMax s1
      have lm2 := dnum_most b vMax s1
      rw [hv] at hr lt2 lm2
      simp only [] at hr lt2 lm2
      have LT2 := Lib.hid (And.intro lt2 lm2)
      have V2 := Lib.hid hv
      clear hv lt2 lm2
      obtain ⟨⟨s3, n3⟩, hv⟩ : ∃ q, dnum b 16383 s2 = q := ⟨_, rfl⟩
      have lt3 := dnum_lt62 b 16383 s2
      have lm3 := dnum_most b 16383 s2
      rw [hv] at hr lt3 lm3
      simp only [] at hr lt3 lm3
      have LT3 := Lib.hid (And.intro lt3 lm3)
      have V3 := Lib.hid hv
      clear hv lt3 lm3
      have HR0 := Lib.hid hr
      clear hr
      go_wp2_with fail
      have hn := dnumM_any b w _ (w.heap.size + 2) w1b s1 H1.out.rs
      rw [V2.out] at hn
      refine hn.mono ?_
      rintro e w2 ⟨rfl, m, r⟩
      have h := H1.out.step m r
      obtain ⟨⟨ur, ud, uc, ut, rr⟩, fF⟩ := h.cells
      have cc : w2.cell? ⟨w.heap.size + 1, 5, none⟩ = some (.int .u64 0) := row?_cell rr 5
      have H2a := Lib.hid h
      clear h m r hn rr H1
      simp only []
      go_wp2_with fail
      have h := H2a.out.set_o n2
      clear cc fF H2a
      generalize (w2.setCell ⟨w.heap.size + 1, 5, none⟩ (.int .u64 (n2 : Nat))) = w2b at h ⊢
      have H2 := Lib.hid h
      clear h
      go_wp2_with fail
      have hn := dnum_any b w _ (w.heap.size + 2) w2b s2 16383 H2.out.rs
      rw [V3.out] at hn
      refine hn.mono ?_
      rintro e w3 ⟨rfl, m, r⟩
      have h := H2.out.step m r
      have H3 := Lib.hid h
      clear h m r hn H2
      simp only []
      obtain ⟨at3, er3⟩ := s3
      have c2 : w3.cell? ⟨w.heap.size + 2, 2, none⟩ = some (.int .i64 er3) := row?_cell H3.out.rs.row 2
      have fB := row?_frozen H3.out.rs.row
      obtain ⟨⟨ur, ud, uc, ut, rr⟩, fF⟩ := H3.out.cells
      have c5 : w3.cell? ⟨w.heap.size + 1, 5, none⟩ = some (.int .u64 (n2 : Nat)) := row?_cell rr 5
      have hwn : wrap64 ((n3 : Nat) : Int) = (n3 : Nat) := by have := LT3.out; unfold wrap64; omega
      clear rr
      by_cases z : er3 = 0
      case neg =>
        have qz : (er3 == 0) = false := by simpa using z
        have hr := HR0.out
        rw [if_neg (fun h => z h.1)] at hr
        have Z := Lib.hid z
        clear z
        obtain ⟨⟨s4, l4⟩, hv⟩ : ∃ q, rtake b n3 (at3, er3) = q := ⟨_, rfl⟩
        rw [hv] at hr
        simp only [] at hr
        have V4 := Lib.hid hv
        clear hv
        have HR := Lib.hid hr
        clear hr HR0
        go_wp2_with fail
        have hn := dtake_any b w _ (w.heap.size + 2) w3 (at3, er3) n3 LT3.out.1 H3.out.rs
        rw [V4.out] at hn
        refine hn.mono ?_
        rintro e w4 ⟨v4, rfl, o, m, r⟩
        have h := H3.out.step m r
        have o' := own_lower o H3.out.hN
        obtain ⟨a4, x4, rfl, -, -, -⟩ := id (Own.sl o)
        obtain ⟨⟨ur, ud, uc, ut, rr⟩, fF⟩ := h.cells
        have cc := row?_cell rr 7
        have O4 := Lib.hid o'
        have H4a := Lib.hid h
        clear h m r hn rr H3 o o'
        simp only []
        go_wp2_with fail
        have h := H4a.out.set_dat _ l4 O4.out
        clear cc fF H4a O4
        generalize (w4.setCell ⟨w.heap.size + 1, 7, none⟩ (.slice a4 l4.length x4)) = w4b at h ⊢
        have H4 := Lib.hid h
        clear h
        go_meet
        have e1 := congrArg Prod.fst HR.out
        have e2 := congrArg Prod.snd HR.out
        simp only [] at e1 e2
        subst e1 e2
        exact H4.out
      subst z
      obtain ⟨y, hy, hyv⟩ : ∃ y : Nat, IntKind.u64.wrap (4611686018427387903 - (n3 : Int)) = y ∧ y = vMax - n3 := ⟨vMax - n3, by have := LT3.out; unfold vMax; simp only [IntKind.wrap_u64]; omega, rfl⟩
      have hr := HR0.out
      rw [← hyv] at hr
      have HY := Lib.hid hyv
      clear hyv
      by_cases z : y < n2
      case neg =>
        have p1 : decide (y < n2) = false := decide_eq_false z
        have p2 : decide ((y : Int) < (n2 : Int)) = false := decide_eq_false (by omega)
        rw [if_neg (fun h => z h.2)] at hr
        have Z := Lib.hid z
        clear z
        obtain ⟨⟨s4, l4⟩, hv⟩ : ∃ q, rtake b n3 (at3, 0) = q := ⟨_, rfl⟩
        rw [hv] at hr
        simp only [] at hr
        have V4 := Lib.hid hv
        clear hv
        have HR := Lib.hid hr
        clear hr HR0
        go_wp2_with fail
        have hn := dtake_any b w _ (w.heap.size + 2) w3 (at3, 0) n3 LT3.out.1 H3.out.rs
        rw [V4.out] at hn
        refine hn.mono ?_
        rintro e w4 ⟨v4, rfl, o, m, r⟩
        have h := H3.out.step m r
        have o' := own_lower o H3.out.hN
        obtain ⟨a4, x4, rfl, -, -, -⟩ := id (Own.sl o)
        obtain ⟨⟨ur, ud, uc, ut, rr⟩, fF⟩ := h.cells
        have cc := row?_cell rr 7
        have O4 := Lib.hid o'
        have H4a := Lib.hid h
        clear h m r hn rr H3 o o'
        simp only []
        go_wp2_with fail
        have h := H4a.out.set_dat _ l4 O4.out
        clear cc fF H4a O4
        generalize (w4.setCell ⟨w.heap.size + 1, 7, none⟩ (.slice a4 l4.length x4)) = w4b at h ⊢
        have H4 := Lib.hid h
        clear h
        go_meet
        have e1 := congrArg Prod.fst HR.out
        have e2 := congrArg Prod.snd HR.out
        simp only [] at e1 e2
        subst e1 e2
        exact H4.out
      have p1 : decide (y < n2) = true := decide_eq_true z
      have p2 : decide ((y : Int) < (n2 : Int)) = true := decide_eq_true (by omega)
      rw [if_pos ⟨rfl, z⟩] at hr
      have Z := Lib.hid z
      clear z
      go_wp2_with fail
      have mE : Mut (w.heap.size + 2) w3 (w3.setCell ⟨w.heap.size + 2, 2, none⟩ (.int .i64 5)) := (Mut.refl _ _).setCell _ _ _
      have hE := H3.out.step mE (H3.out.rs.mut (s' := (at3, 5)) mE (by rw [row?_setCell_eq H3.out.rs.row]; rfl) H3.out.rs.at_)
      clear c2 fB c5 fF p1 p2 hy
      generalize (w3.setCell ⟨w.heap.size + 2, 2, none⟩ (.int .i64 5)) = wE at hE ⊢
      have HE := Lib.hid hE
      clear mE hE H3
      obtain ⟨⟨s4, l4⟩, hv⟩ : ∃ q, rtake b n3 (at3, 5) = q := ⟨_, rfl⟩
      rw [hv] at hr
      simp only [] at hr
      have V4 := Lib.hid hv
      clear hv
      have HR := Lib.hid hr
      clear hr HR0
      go_wp2_with fail
      have hn := dtake_any b w _ (w.heap.size + 2) wE (at3, 5) n3 LT3.out.1 HE.out.rs
      rw [V4.out] at hn
      refine hn.mono ?_
      rintro e w4 ⟨v4, rfl, o, m, r⟩
      have h := HE.out.step m r
      have o' := own_lower o HE.out.hN
      obtain ⟨a4, x4, rfl, -, -, -⟩ := id (Own.sl o)
      obtain ⟨⟨ur, ud, uc, ut, rr⟩, fF⟩ := h.cells
      have cc := row?_cell rr 7
      have O4 := Lib.hid o'
      have H4a := Lib.hid h
      clear h m r hn rr HE o o'
      simp only []
      go_wp2_with fail
      have h := H4a.out.set_dat _ l4 O4.out
      clear cc fF H4a O4
      generalize (w4.setCell ⟨w.heap.size + 1, 7, none⟩ (.slice a4 l4.length x4)) = w4b at h ⊢
      have H4 := Lib.hid h
      clear h
      go_meet
      have e1 := congrArg Prod.fst HR.out
      have e2 := congrArg Prod.snd HR.out
      simp only [] at e1 e2
      subst e1 e2
      exact H4.out
    have q15 : (K == 15) = false := by simpa using k15

    exact absurd HKK.out (by simp only [beq_eq_false_iff_ne] at *; omega)
  have h4 := hcut
  clear hcut
  have r0 := h4.kept.row HROW0.out (by omega) (by omega)
  have c2 : wc.cell? ⟨w.heap.size + 2, 2, none⟩ = some (.int .i64 s'.2) := row?_cell h4.rs.row 2
  have c1 : wc.cell? ⟨w.heap.size + 2, 1, none⟩ = some (.int .i64 (s'.1 : Nat)) := row?_cell h4.rs.row 1
  obtain ⟨vr, vd, vc, vt, fa⟩ := h4.fa
  have H4 := Lib.hid h4
  have FA4 := Lib.hid fa
  clear h4 fa fW hrow0 cW c0 qk0 hw8 HRB HA HBEL
  by_cases z : s'.2 = 0
  case neg =>
    have qz : (s'.2 != 0) = true := by simpa using z
    have hq := HQ2.out
    rw [if_pos z] at hq
    subst hq
    have Z := Lib.hid z
    clear z HQ2
    go_wp2_with fail
    have c3 : (wc.setRow w.heap.size (fvA 0 0 0 (.slice none 0 0) 0 0 false (.slice none 0 0) (.slice none 0 0) (.slice none 0 0))).cell? ⟨w.heap.size + 2, 2, none⟩ = some (.int .i64 s'.2) := row?_cell (show row? (wc.setRow w.heap.size (fvA 0 0 0 (.slice none 0 0) 0 0 false (.slice none 0 0) (.slice none 0 0) (.slice none 0 0))) (w.heap.size + 2) = _ by rw [row?_setRow_ne _ _ _ _ (by omega)]; exact H4.out.rs.row) 2
    go_region
    all_goals (go_wp2_with fail)
    refine bodyPost_ret (results_row3 AgFF rfl _ _ w.heap.size (fvA 0 0 0 (.slice none 0 0) 0 0 false (.slice none 0 0) (.slice none 0 0) (.slice none 0 0)) rfl ?_ rfl) rfl ⟨_, rfl, FO.zero _ _ _ _ 0 0, (below_setRow H4.out.rs.bel (Nat.le_refl _) _).drew⟩
    rw [row?_drew]; exact row?_setRow_eq r0
  case pos =>
    obtain ⟨⟨at_, er⟩, rfl⟩ : ∃ p, p = s' := ⟨_, rfl⟩
    simp only [] at z c1 c2
    subst z
    have hq := HQ2.out
    rw [if_neg (by simp)] at hq
    subst hq
    obtain ⟨ar, er, rfl, -, -, -⟩ := id (Own.sr FA4.out.rs)
    obtain ⟨ad, ed, rfl, -, -, -⟩ := id (Own.sl FA4.out.dat)
    obtain ⟨ac, ec, rfl, -, -, -⟩ := id (Own.sl FA4.out.cid)
    obtain ⟨at2, et, rfl, -, -, -⟩ := id (Own.sl FA4.out.tok)
    have r2 : row? wc (w.heap.size + 1) = some _ := FA4.out.row
    have ha := fvA_all f'.k f'.n f'.d ar ad ac at2 f'.rs.length f'.dat.length f'.cid.length f'.tok.length er ed ec et f'.i f'.o f'.fin
    have hz : (fvA f'.k f'.n f'.d (.slice ar f'.rs.length er) f'.i f'.o f'.fin (.slice ad f'.dat.length ed) (.slice ac f'.cid.length ec) (.slice at2 f'.tok.length et)).size = 10 := rfl
    generalize hF : fvA f'.k f'.n f'.d (.slice ar f'.rs.length er) f'.i f'.o f'.fin (.slice ad f'.dat.length ed) (.slice ac f'.cid.length ec) (.slice at2 f'.tok.length et) = F at r2 ha hz
    have HF := Lib.hid hF
    clear hF HQ2
    have lf := rldFF wc (w.heap.size + 1) (by rw [r2, Option.map_some, hz])
    rw [r2] at lf
    have lf' : (loadAgg 28 (.pointer (some ⟨w.heap.size + 1, 0, none⟩))).run Try.prog wc.drew = .ok (.agg F) wc.drew := by
      have := rldFF wc.drew (w.heap.size + 1) (by rw [row?_drew, r2, Option.map_some, hz])
      rw [row?_drew, r2] at this
      exact this
    have c3 : (wc.setRow w.heap.size F).cell? ⟨w.heap.size + 2, 1, none⟩ = some (.int .i64 (at_ : Nat)) := row?_cell (show row? (wc.setRow w.heap.size F) (w.heap.size + 2) = _ by rw [row?_setRow_ne _ _ _ _ (by omega)]; exact H4.out.rs.row) 1
    go_wp2_with fail
    go_region
    all_goals (go_wp2_with fail)
    have m : Mut w.heap.size wc (wc.setRow w.heap.size F).drew := ((Mut.refl _ _).setRow F).drew
    refine bodyPost_ret (results_row3 AgFF rfl _ _ w.heap.size F rfl ?_ hz) rfl ⟨_, rfl, ?_, (below_setRow H4.out.rs.bel (Nat.le_refl _) _).drew⟩
    · rw [row?_drew]; exact row?_setRow_eq r0
    · exact ⟨_, _, _, _, by rw [← HF.out], own_lowerS (Mut.ownS m FA4.out.rs (by omega)) (by omega), own_lowerS (Mut.ownS m FA4.out.dat (by omega)) (by omega), own_lowerS (Mut.ownS m FA4.out.cid (by omega)) (by omega), own_lowerS (Mut.ownS m FA4.out.tok (by omega)) (by omega)⟩
end Go.Proofs.Ytipniobgijdlkaa
