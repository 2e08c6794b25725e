/- The walk of package frame's Get: the frame at the beginning of bytes. -/
import Derived.Test.YtipniobgijdlkaaMgsFrmW4
import Derived.BigRegion
import Derived.RegionTactic
namespace Frm
open Go Go.RowKit Go.Rw Hdr
theorem results_row3 {P : Program} {fn : Func} {p a b : Tmp} {t n : Nat} (A : Agg P t n) (hr : fn.results = #[.cell p t, .tmp a, .tmp b]) (tmps : Array Value) (w : World) (blk : Nat) (cells : Array Value)
    (hp : tmps.getD p undef = .pointer (some ⟨blk, 0, none⟩)) (h : row? w blk = some cells) (hn : cells.size = n) : (results fn tmps).run P w = .ok (.tuple #[.agg cells, tmps.getD a undef, tmps.getD b undef]) w := by
  have h1 := results_row (fn := { fn with results := #[.cell p t] }) A rfl tmps w blk cells hp h hn
  simp only [results] at h1 ⊢
  simp [hr, Sem.run_bind, Result.andThen] at h1 ⊢
  cases hq : Sem.run P (asAddr (tmps[p]?.getD undef)) w with
  | ok x w1 =>
    rw [hq] at h1
    simp only [] at h1 ⊢
    rw [h1]
  | halt x w1 => rw [hq] at h1; cases h1
theorem takeWhile_run (p : UInt8 → Bool) : ∀ (l : List UInt8) (j : Nat), j ≤ l.length → (∀ k, k < j → p (nth l k) = true) → (j = l.length ∨ p (nth l j) = false) → (l.takeWhile p).length = j
  | [], j, h, _, _ => by simp at h; subst h; rfl
  | c :: l, 0, _, _, h => by
    rcases h with h | h
    · simp at h
    · have h' : p c = false := h
      simp [List.takeWhile, h']
  | c :: l, j + 1, h, ha, he => by
    have h0 : p c = true := ha 0 (by omega)
    simp only [List.takeWhile, h0, List.length_cons]
    rw [takeWhile_run p l j (by simpa using h) (fun k hk => by have := ha (k + 1) (by omega); exact this) (by
      rcases he with he | he
      · left; simpa using he
      · right; exact he)]
theorem zrun_of {b : List UInt8} {j : Nat} (h1 : j ≤ b.length) (h2 : j ≤ 16384) (ha : ∀ k, k < j → nth b k = 0) (he : j = b.length ∨ j = 16384 ∨ nth b j ≠ 0) : zrun b = j := by
  have hn : ∀ k, k < 16384 → nth (b.take 16384) k = nth b k := fun k hk => by unfold nth; rw [List.getElem?_take, if_pos hk]
  have hl : (b.take 16384).length = min 16384 b.length := List.length_take
  unfold zrun
  refine takeWhile_run _ _ j (by omega) (fun k hk => ?_) ?_
  · rw [hn k (by omega), ha k hk]; rfl
  · by_cases h16 : j = 16384
    · left; omega
    · rcases he with he | he | he
      · left; omega
      · exact absurd he h16
      · right; rw [hn j (by omega)]; simpa using he
theorem own_lowerS {w : World} {B B' sz : Nat} {e : TypeId} {v : Value} {n : Nat} {xs : List Value} (h : w.ownsRow B e sz v n xs) (hB : B' ≤ B) : w.ownsRow B' e sz v n xs := by
  refine ⟨h.1, ?_⟩
  rcases h.2 with h' | ⟨g, cap, cur, e1, hb, r⟩
  · exact .inl h'
  · exact .inr ⟨g, cap, cur, e1, Nat.le_trans hB hb, r⟩
/-- A frame's value, its slices in blocks of the call's own. -/
def FO (N : Nat) (tr tb : TypeId) (w : World) (v : Value) (f : Fr) : Prop :=
  ∃ vr vd vc vt, v = .agg (fvA f.k f.n f.d vr f.i f.o f.fin vd vc vt) ∧ w.ownsRow N tr 2 vr f.rs.length (rcells f.rs) ∧ w.ownsRow N tb 1 vd f.dat.length (f.dat.map bv) ∧ w.ownsRow N tb 1 vc f.cid.length (f.cid.map bv) ∧ w.ownsRow N tb 1 vt f.tok.length (f.tok.map bv)
theorem FO.fv {N : Nat} {tr tb : TypeId} {w : World} {v : Value} {f : Fr} (h : FO N tr tb w v f) : Fv w v f := by
  obtain ⟨vr, vd, vc, vt, rfl, h1, h2, h3, h4⟩ := h
  exact ⟨vr, vd, vc, vt, rfl, Own.sr h1, Own.sl h2, Own.sl h3, Own.sl h4⟩
theorem FO.zero (N : Nat) (tr tb : TypeId) (w : World) (k : Int) (n : Nat) : FO N tr tb w (.agg (fvA k n 0 (.slice none 0 0) 0 0 false (.slice none 0 0) (.slice none 0 0) (.slice none 0 0))) { fr0 with k := k, n := n } :=
  ⟨_, _, _, _, rfl, World.ownsRow_nil _ _ _ _, World.ownsRow_nil _ _ _ _, World.ownsRow_nil _ _ _ _, World.ownsRow_nil _ _ _ _⟩
end Frm
namespace Go.Proofs.Ytipniobgijdlkaa
open Go.RowKit Go.Rw Frm Hdr
attribute [local go_sem ↓] ldFF stFF alFF
attribute [local go_sem] rldFF rstFF ralFF setRow_alloc_at setRow_alloc_past setRow_drew
def buildQ (t : TypeId) (ps : Array (Nat × Value)) : Sem Value := Instr.build t ps
theorem bdFQ (ps : Array (Nat × Value)) : Instr.build 28 ps = buildQ 28 ps := rfl
theorem bdRQ (ps : Array (Nat × Value)) : Instr.build 80 ps = buildQ 80 ps := rfl
theorem buildF0 (w : World) : (buildQ 28 #[]).run Try.prog w = .ok (.agg (fvA 0 0 0 (.slice none 0 0) 0 0 false (.slice none 0 0) (.slice none 0 0) (.slice none 0 0))) w := Go.run_build w _ _ _ (by kernel_rfl)
theorem buildF1 (x : Int) (w : World) : (buildQ 28 #[(0, .int .i64 x)]).run Try.prog w = .ok (.agg (fvA x 0 0 (.slice none 0 0) 0 0 false (.slice none 0 0) (.slice none 0 0) (.slice none 0 0))) w := Go.run_build w _ _ _ (by kernel_rfl)
theorem buildF2 (n : Nat) (w : World) : (buildQ 28 #[(0, .int .i64 0), (1, .int .u64 (n : Nat))]).run Try.prog w = .ok (.agg (fvA 0 n 0 (.slice none 0 0) 0 0 false (.slice none 0 0) (.slice none 0 0) (.slice none 0 0))) w := Go.run_build w _ _ _ (by kernel_rfl)
theorem buildRd (ao : Option Addr) (n cap : Nat) (w : World) : (buildQ 80 #[(0, .slice ao n cap), (1, .int .i64 1)]).run Try.prog w = .ok (.agg #[.slice ao n cap, .int .i64 1, .int .i64 0]) w := Go.run_build w _ _ _ (by kernel_rfl)
attribute [local go_sem ↓] bdFQ bdRQ
attribute [local go_sem] buildF0 buildF1 buildF2 buildRd
theorem fz_all (k : Int) (n : Nat) : allOne (fvA k n 0 (.slice none 0 0) 0 0 false (.slice none 0 0) (.slice none 0 0) (.slice none 0 0)) = true := fvA_all _ _ _ _ _ _ _ _ _ _ _ _ _ _ _ _ _ _
/-- What Get answers. -/
def FGet (w : World) (q : Fr × Nat × Int) (e : Ending) (w' : World) : Prop :=
  ∃ v, e = .returned (.tuple #[v, .int .i64 (q.2.1 : Nat), .int .i64 q.2.2]) ∧ FO w.heap.size 58 5 w' v q.1 ∧ Below w.heap.size w w'
set_option maxRecDepth 100000 in
set_option maxHeartbeats 4000000 in
theorem fget_any (b : List UInt8) (hb : b.length ≤ 1000000) (vb : Value) (w : World) (hs : Sl w vb b) :
    Calls Try.prog 33 #[vb] w (FGet w (fget b)) := by
  obtain ⟨q, hq⟩ : ∃ q, fget b = q := ⟨_, rfl⟩
  rw [hq]
  obtain ⟨ao, cap, rfl, hc, hnn, hp⟩ := id hs
  have HQ := Lib.hid hq
  have HS := Lib.hid hs
  have HP := Lib.hid hp
  clear hq hs hp hnn
  go_enter Try.func33, Try.ntmps33
  by_cases h0 : b.length = 0
  case pos =>
    have hq := HQ.out
    unfold fget at hq
    rw [if_pos h0] at hq
    subst hq
    have q0 : ((b.length : Int) == 0) = true := by rw [beq_iff_eq]; omega
    have H0 := Lib.hid h0
    clear h0 HQ
    go_wp2_with fail
    exact bodyPost_ret (results_row3 AgFF rfl _ _ w.heap.size (fvA 0 0 0 (.slice none 0 0) 0 0 false (.slice none 0 0) (.slice none 0 0) (.slice none 0 0)) rfl (row?_alloc_at _ _ _ _ rfl) rfl) rfl ⟨_, rfl, FO.zero _ _ _ _ 0 0, (Below.refl _ _).alloc (Nat.le_refl _) _⟩
  have q0 : ((b.length : Int) == 0) = false := by rw [beq_eq_false_iff_ne]; omega
  obtain ⟨bb, off, rfl, hcell⟩ := HP.out (by omega)
  have c0 := hcell 0 (by omega)
  rw [Nat.add_zero] at c0
  have cb := cell_lt c0
  have HC := Lib.hid hcell
  have hl0 : 0 < b.length := by omega
  have HL0 := Lib.hid h0
  obtain ⟨c, hcd⟩ : ∃ c, nth b 0 = c := ⟨_, rfl⟩
  rw [hcd] at c0
  have HCD := Lib.hid hcd
  clear hcell hcd h0 HP
  by_cases h63 : 63 < n8 c
  case pos =>
    have hq := HQ.out
    unfold fget at hq
    rw [if_neg HL0.out, HCD.out, if_pos h63] at hq
    subst hq
    have p : decide ((63 : Int) < (n8 c : Nat)) = true := decide_eq_true (by omega)
    clear h63 HQ
    go_wp2_with fail
    exact bodyPost_ret (results_row3 AgFF rfl _ _ w.heap.size (fvA 0 0 0 (.slice none 0 0) 0 0 false (.slice none 0 0) (.slice none 0 0) (.slice none 0 0)) rfl (row?_alloc_at _ _ _ _ rfl) rfl) rfl ⟨_, rfl, FO.zero _ _ _ _ 0 0, (Below.refl _ _).alloc (Nat.le_refl _) _⟩
  have p63 : decide ((63 : Int) < (n8 c : Nat)) = false := decide_eq_false (by omega)
  by_cases hc0 : c = 0
  case pos =>
    have H63 := Lib.hid h63
    subst hc0
    go_wp2_with fail
    go_loopw [5] (fun v wr => ∃ j : Nat, j ≤ b.length ∧ j ≤ 16384 ∧ v = .int .i64 j ∧ (∀ k, k < j → nth b k = 0) ∧ (w.alloc (.cells (fvA 0 0 0 (.slice none 0 0) 0 0 false (.slice none 0 0) (.slice none 0 0) (.slice none 0 0)) 28)) = wr) (fun v _ => b.length - (intOf v).toNat)
    case atStart => exact ⟨0, by omega, by omega, rfl, fun k hk => absurd hk (by omega), rfl⟩
    case round =>
      obtain ⟨j, hj1, hj2, rfl, hall, rfl⟩ := hrel
      have HA := Lib.hid hall
      clear hall c0
      by_cases g : j < b.length ∧ j < 16384
      case neg =>
        have p : decide ((j : Int) < min (b.length : Int) 16384) = false := decide_eq_false (by omega)
        have hz : zrun b = j := zrun_of hj1 hj2 HA.out (by omega)
        have hq := HQ.out
        unfold fget at hq
        rw [if_neg HL0.out, HCD.out, if_neg H63.out, if_pos rfl, hz] at hq
        subst hq
        have hza := fz_all 0 j
        have G := Lib.hid g
        clear HQ hz g
        go_wp2_with fail
        exact bodyPost_ret (results_row3 AgFF rfl _ _ w.heap.size (fvA 0 j 0 (.slice none 0 0) 0 0 false (.slice none 0 0) (.slice none 0 0) (.slice none 0 0)) rfl (row?_alloc_at _ _ _ _ rfl) rfl) rfl ⟨_, rfl, FO.zero _ _ _ _ 0 j, (Below.refl _ _).alloc (Nat.le_refl _) _⟩
      have p : decide ((j : Int) < min (b.length : Int) 16384) = true := decide_eq_true (by omega)
      have cj := HC.out j g.1
      have hj3 := g.1
      have hj4 := g.2
      clear g
      by_cases g3 : nth b j = 0
      · have p3 : (nth b j == 0) = true := by simpa using g3
        have G3 := Lib.hid g3
        clear g3
        go_wp2_with fail
        go_roundw
        case rel =>
          refine ⟨j + 1, by omega, by omega, by go_num, fun k hk => ?_, by first | rfl | trivial⟩
          by_cases hkj : k = j
          · subst hkj; exact G3.out
          · exact HA.out k (by omega)
        case measure => simp [intOf]; omega
      · have p3 : (nth b j == 0) = false := by simpa using g3
        have hz : zrun b = j := zrun_of hj1 hj2 HA.out (by right; right; exact g3)
        have hq := HQ.out
        unfold fget at hq
        rw [if_neg HL0.out, HCD.out, if_neg H63.out, if_pos rfl, hz] at hq
        subst hq
        have hza := fz_all 0 j
        clear HQ hz g3
        go_wp2_with fail
        exact bodyPost_ret (results_row3 AgFF rfl _ _ w.heap.size (fvA 0 j 0 (.slice none 0 0) 0 0 false (.slice none 0 0) (.slice none 0 0) (.slice none 0 0)) rfl (row?_alloc_at _ _ _ _ rfl) rfl) rfl ⟨_, rfl, FO.zero _ _ _ _ 0 j, (Below.refl _ _).alloc (Nat.le_refl _) _⟩
  have pc0 : (c == 0) = false := by simpa using hc0
  have hw8 : wrap64 ((n8 c : Nat) : Int) = (n8 c : Nat) := by have := n8_lt c; unfold wrap64; omega
  have hza := fz_all (n8 c : Nat) 0
  have hq := HQ.out
  unfold fget at hq
  rw [if_neg HL0.out, HCD.out, if_neg h63, if_neg hc0] at hq
  simp only [] at hq
  obtain ⟨⟨s', f'⟩, hr⟩ : ∃ q, rbody b (1, 0) { fr0 with k := (n8 c : Nat) } = q := ⟨_, rfl⟩
  rw [hr] at hq
  simp only [] at hq
  have HQ2 := Lib.hid hq
  have HRB := Lib.hid hr
  have HH := Lib.hid (And.intro h63 hc0)
  clear hq hr HQ h63 hc0
  go_wp2_with fail
  have hrow1 : row? (((w.alloc (.cells (fvA 0 0 0 (.slice none 0 0) 0 0 false (.slice none 0 0) (.slice none 0 0) (.slice none 0 0)) 28)).alloc (.cells #[.slice (some ⟨bb, off, none⟩) b.length cap, .int .i64 1, .int .i64 0] 80)).alloc (.cells (fvA (n8 c : Nat) 0 0 (.slice none 0 0) 0 0 false (.slice none 0 0) (.slice none 0 0) (.slice none 0 0)) 28)) (w.heap.size + 1) = some #[.slice (some ⟨bb, off, none⟩) b.length cap, .int .i64 ((1 : Nat) : Int), .int .i64 0] := by
    rw [row?_alloc_past _ _ _ (by simp)]; exact row?_alloc_at _ _ _ _ (by simp)
  have hrow2 : row? (((w.alloc (.cells (fvA 0 0 0 (.slice none 0 0) 0 0 false (.slice none 0 0) (.slice none 0 0) (.slice none 0 0)) 28)).alloc (.cells #[.slice (some ⟨bb, off, none⟩) b.length cap, .int .i64 1, .int .i64 0] 80)).alloc (.cells (fvA (n8 c : Nat) 0 0 (.slice none 0 0) 0 0 false (.slice none 0 0) (.slice none 0 0) (.slice none 0 0)) 28)) (w.heap.size + 2) = some (fvA (n8 c : Nat) 0 0 (.slice none 0 0) 0 0 false (.slice none 0 0) (.slice none 0 0) (.slice none 0 0)) := row?_alloc_at _ _ _ _ (by simp)
  have hrow0 : row? (((w.alloc (.cells (fvA 0 0 0 (.slice none 0 0) 0 0 false (.slice none 0 0) (.slice none 0 0) (.slice none 0 0)) 28)).alloc (.cells #[.slice (some ⟨bb, off, none⟩) b.length cap, .int .i64 1, .int .i64 0] 80)).alloc (.cells (fvA (n8 c : Nat) 0 0 (.slice none 0 0) 0 0 false (.slice none 0 0) (.slice none 0 0) (.slice none 0 0)) 28)) w.heap.size = some (fvA 0 0 0 (.slice none 0 0) 0 0 false (.slice none 0 0) (.slice none 0 0) (.slice none 0 0)) := by
    rw [row?_alloc_past _ _ _ (by simp <;> omega), row?_alloc_past _ _ _ (by simp)]; exact row?_alloc_at _ _ _ _ rfl
  have hbel : Below w.heap.size w (((w.alloc (.cells (fvA 0 0 0 (.slice none 0 0) 0 0 false (.slice none 0 0) (.slice none 0 0) (.slice none 0 0)) 28)).alloc (.cells #[.slice (some ⟨bb, off, none⟩) b.length cap, .int .i64 1, .int .i64 0] 80)).alloc (.cells (fvA (n8 c : Nat) 0 0 (.slice none 0 0) 0 0 false (.slice none 0 0) (.slice none 0 0) (.slice none 0 0)) 28)) := (bel2 w _ _).alloc (by simp <;> omega) _
  have hsz : (((w.alloc (.cells (fvA 0 0 0 (.slice none 0 0) 0 0 false (.slice none 0 0) (.slice none 0 0) (.slice none 0 0)) 28)).alloc (.cells #[.slice (some ⟨bb, off, none⟩) b.length cap, .int .i64 1, .int .i64 0] 80)).alloc (.cells (fvA (n8 c : Nat) 0 0 (.slice none 0 0) 0 0 false (.slice none 0 0) (.slice none 0 0) (.slice none 0 0)) 28)).heap.size = w.heap.size + 3 := by simp
  generalize (((w.alloc (.cells (fvA 0 0 0 (.slice none 0 0) 0 0 false (.slice none 0 0) (.slice none 0 0) (.slice none 0 0)) 28)).alloc (.cells #[.slice (some ⟨bb, off, none⟩) b.length cap, .int .i64 1, .int .i64 0] 80)).alloc (.cells (fvA (n8 c : Nat) 0 0 (.slice none 0 0) 0 0 false (.slice none 0 0) (.slice none 0 0) (.slice none 0 0)) 28)) = W at hrow1 hrow2 hrow0 hbel hsz ⊢
  have hA : FSA b w (.slice (some ⟨bb, off, none⟩) b.length cap) (w.heap.size + 1) (w.heap.size + 2) (w.heap.size + 3) 58 5 W W (1, 0) { fr0 with k := (n8 c : Nat) } :=
    ⟨⟨hrow1, by show 1 ≤ b.length; omega, hb, HS.out, hbel, by omega⟩, ⟨.slice none 0 0, ⟨hrow2, World.ownsRow_nil _ _ _ _, World.ownsRow_nil _ _ _ _, World.ownsRow_nil _ _ _ _, World.ownsRow_nil _ _ _ _⟩⟩, by omega, by omega, by omega, by omega, by omega, by omega, Mut2.refl _ _ _⟩
  have hbody := fbody_any b w _ (w.heap.size + 1) (w.heap.size + 2) (w.heap.size + 3) W W (1, 0) { fr0 with k := (n8 c : Nat) } rfl hA
  rw [HRB.out] at hbody
  have HROW0 := Lib.hid hrow0
  have HSZ := Lib.hid hsz
  clear hrow1 hrow2 hrow0 hbel hsz hA c0 pc0 p63 hw8 hza cb
  refine hbody.mono ?_
  rintro e w4 ⟨rfl, h4⟩
  clear hbody
  simp only [] at h4
  have r0 := h4.kept.row HROW0.out (by omega) (by omega)
  have c2 : w4.cell? ⟨w.heap.size + 1, 2, none⟩ = some (.int .i64 s'.2) := row?_cell h4.rs.row 2
  have c1 : w4.cell? ⟨w.heap.size + 1, 1, none⟩ = some (.int .i64 (s'.1 : Nat)) := row?_cell h4.rs.row 1
  obtain ⟨vr, vd, vc, vt, fa⟩ := h4.fa
  have H4 := Lib.hid h4
  have FA4 := Lib.hid fa
  clear h4 fa
  by_cases z : s'.2 = 0
  case neg =>
    have qz : (s'.2 != 0) = true := by simpa using z
    have hq := HQ2.out
    rw [if_pos z] at hq
    subst hq
    have Z := Lib.hid z
    clear z HQ2 HRB
    go_wp2_with fail
    have c3 : (w4.setRow w.heap.size (fvA 0 0 0 (.slice none 0 0) 0 0 false (.slice none 0 0) (.slice none 0 0) (.slice none 0 0))).cell? ⟨w.heap.size + 1, 2, none⟩ = some (.int .i64 s'.2) := row?_cell (show row? (w4.setRow w.heap.size (fvA 0 0 0 (.slice none 0 0) 0 0 false (.slice none 0 0) (.slice none 0 0) (.slice none 0 0))) (w.heap.size + 1) = _ by rw [row?_setRow_ne _ _ _ _ (by omega)]; exact H4.out.rs.row) 2
    go_region
    all_goals (go_wp2_with fail)
    refine bodyPost_ret (results_row3 AgFF rfl _ _ w.heap.size (fvA 0 0 0 (.slice none 0 0) 0 0 false (.slice none 0 0) (.slice none 0 0) (.slice none 0 0)) rfl ?_ rfl) rfl ⟨_, rfl, FO.zero _ _ _ _ 0 0, (below_setRow H4.out.rs.bel (Nat.le_refl _) _).drew⟩
    rw [row?_drew]; exact row?_setRow_eq r0
  case pos =>
    obtain ⟨⟨at_, er⟩, rfl⟩ : ∃ p, p = s' := ⟨_, rfl⟩
    simp only [] at z c1 c2
    subst z
    have hq := HQ2.out
    rw [if_neg (by simp)] at hq
    subst hq
    obtain ⟨ar, er, rfl, -, -, -⟩ := id (Own.sr FA4.out.rs)
    obtain ⟨ad, ed, rfl, -, -, -⟩ := id (Own.sl FA4.out.dat)
    obtain ⟨ac, ec, rfl, -, -, -⟩ := id (Own.sl FA4.out.cid)
    obtain ⟨at2, et, rfl, -, -, -⟩ := id (Own.sl FA4.out.tok)
    have r2 : row? w4 (w.heap.size + 1 + 1) = some _ := FA4.out.row
    have ha := fvA_all f'.k f'.n f'.d ar ad ac at2 f'.rs.length f'.dat.length f'.cid.length f'.tok.length er ed ec et f'.i f'.o f'.fin
    have hz : (fvA f'.k f'.n f'.d (.slice ar f'.rs.length er) f'.i f'.o f'.fin (.slice ad f'.dat.length ed) (.slice ac f'.cid.length ec) (.slice at2 f'.tok.length et)).size = 10 := rfl
    generalize hF : fvA f'.k f'.n f'.d (.slice ar f'.rs.length er) f'.i f'.o f'.fin (.slice ad f'.dat.length ed) (.slice ac f'.cid.length ec) (.slice at2 f'.tok.length et) = F at r2 ha hz
    have HF := Lib.hid hF
    clear hF HQ2 HRB
    have lf := rldFF w4 (w.heap.size + 1 + 1) (by rw [r2, Option.map_some, hz])
    rw [r2] at lf
    have lf' : (loadAgg 28 (.pointer (some ⟨w.heap.size + 1 + 1, 0, none⟩))).run Try.prog w4.drew = .ok (.agg F) w4.drew := by
      have := rldFF w4.drew (w.heap.size + 1 + 1) (by rw [row?_drew, r2, Option.map_some, hz])
      rw [row?_drew, r2] at this
      exact this
    have c3 : (w4.setRow w.heap.size F).cell? ⟨w.heap.size + 1, 1, none⟩ = some (.int .i64 (at_ : Nat)) := row?_cell (show row? (w4.setRow w.heap.size F) (w.heap.size + 1) = _ by rw [row?_setRow_ne _ _ _ _ (by omega)]; exact H4.out.rs.row) 1
    go_wp2_with fail
    go_region
    all_goals (go_wp2_with fail)
    have m : Mut w.heap.size w4 (w4.setRow w.heap.size F).drew := ((Mut.refl _ _).setRow F).drew
    refine bodyPost_ret (results_row3 AgFF rfl _ _ w.heap.size F rfl ?_ hz) rfl ⟨_, rfl, ?_, (below_setRow H4.out.rs.bel (Nat.le_refl _) _).drew⟩
    · rw [row?_drew]; exact row?_setRow_eq r0
    · exact ⟨_, _, _, _, by rw [← HF.out], own_lowerS (Mut.ownS m FA4.out.rs (by omega)) (by omega), own_lowerS (Mut.ownS m FA4.out.dat (by omega)) (by omega), own_lowerS (Mut.ownS m FA4.out.cid (by omega)) (by omega), own_lowerS (Mut.ownS m FA4.out.tok (by omega)) (by omega)⟩
end Go.Proofs.Ytipniobgijdlkaa
