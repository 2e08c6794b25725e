/- FrmD4; FrmD5. -/
import Derived.Test.YtipniobgijdlkaaMgsFrmD3
import Derived.Test.YtipniobgijdlkaaMgsFrmAll
section
/- The document's Get of a frame answers as the program's: in plain words. -/
namespace Frm
open Go Go.RowKit Go.Rw Hdr
/-- What is wrong is the same, and if nothing is, where one is too. -/
def St (s t : Nat × Int) : Prop := s.2 = t.2 ∧ (s.2 = 0 → s = t)
theorem St.rfl {s : Nat × Int} : St s s := ⟨Eq.refl _, fun _ => Eq.refl _⟩
theorem num_st {b : List UInt8} {s t : Nat × Int} (most : Nat) (h : St s t) :
    St (rfail (decide (most < (rvar b s).2)) 5 (rvar b s).1) (dnum b most t).1 ∧ ((rfail (decide (most < (rvar b s).2)) 5 (rvar b s).1).2 = 0 → (rvar b s).2 = (dnum b most t).2) := by
  by_cases hs : s.2 = 0
  · obtain rfl := h.2 hs
    unfold rvar dnum
    rw [if_neg (by simpa using hs), if_neg (by simpa using hs)]
    generalize vget (b.drop s.1) = q
    obtain ⟨n, many, e⟩ := q
    simp only []
    by_cases he : e = 0
    · subst he
      rw [if_neg (by simp)]
      by_cases hm : most < n
      · rw [if_pos hm, decide_eq_true hm, rfail_yes]
        exact ⟨⟨Eq.refl _, fun h => by simp at h⟩, fun h => by simp at h⟩
      · rw [if_neg hm, decide_eq_false hm, rfail_ok]
        exact ⟨St.rfl, fun _ => Eq.refl _⟩
    · rw [if_pos he, rfail_bad (by simpa using he)]
      exact ⟨⟨Eq.refl _, fun h => absurd h he⟩, fun h => absurd h he⟩
  · have ht : t.2 ≠ 0 := fun e => hs (h.1.trans e)
    rw [rvar_bad hs, dnum_bad ht, rfail_bad hs]
    exact ⟨h, fun h => absurd h hs⟩
theorem numM_st {b : List UInt8} {s t : Nat × Int} (h : St s t) : St (rvar b s).1 (dnum b vMax t).1 ∧ ((rvar b s).1.2 = 0 → (rvar b s).2 = (dnum b vMax t).2) := by
  have := num_st (b := b) vMax h
  rw [decide_eq_false (by have := rvar_lt62 b s; unfold vMax; omega), rfail_ok] at this
  exact this
theorem zero_st {b : List UInt8} {s t : Nat × Int} (h : St s t) : St (rzero b s) (dnum b 0 t).1 := by
  have := (num_st (b := b) 0 h).1
  unfold rzero
  rw [show decide ((rvar b s).2 ≠ 0) = decide (0 < (rvar b s).2) from decide_eq_decide.2 (by omega)]
  exact this
theorem take_st {b : List UInt8} {s t : Nat × Int} (n : Nat) (h : St s t) : St (rtake b n s).1 (rtake b n t).1 ∧ ((rtake b n s).1.2 = 0 → (rtake b n s).2 = (rtake b n t).2) := by
  by_cases hs : s.2 = 0
  · obtain rfl := h.2 hs
    exact ⟨St.rfl, fun _ => Eq.refl _⟩
  · have ht : t.2 ≠ 0 := fun e => hs (h.1.trans e)
    rw [rtake_bad hs, rtake_bad ht]
    exact ⟨h, fun h => absurd h hs⟩
theorem rvar_ok0 {b : List UInt8} {s : Nat × Int} (h : (rvar b s).1.2 = 0) : s.2 = 0 := by
  by_cases hs : s.2 = 0
  · exact hs
  · rw [rvar_bad hs] at h; exact h
theorem rtake_ok0 {b : List UInt8} {n : Nat} {s : Nat × Int} (h : (rtake b n s).1.2 = 0) : s.2 = 0 := by
  by_cases hs : s.2 = 0
  · exact hs
  · rw [rtake_bad hs] at h; exact h
theorem rfail_ok0 {c : Bool} {x : Int} {s : Nat × Int} (hx : x ≠ 0) (h : (rfail c x s).2 = 0) : c = false ∧ s.2 = 0 := rfail_no hx h
/-- What two readers have read alike. -/
def Eqv (r d : (Nat × Int) × Fr) : Prop := St r.1 d.1 ∧ (r.1.2 = 0 → r.2 = d.2)
theorem bytes_st {b : List UInt8} {s t : Nat × Int} (h : St s t) (f g : Fr) (hfg : s.2 = 0 → f = g) : Eqv (rbytes b s f) (dbytes b t g) := by
  unfold rbytes dbytes
  simp only []
  have h1 := numM_st (b := b) h
  have k1 := rvar_ok0 (b := b) (s := s)
  generalize rvar b s = r1 at *
  generalize dnum b vMax t = d1 at *
  have h2 := num_st (b := b) 16383 h1.1
  have k2 := rvar_ok0 (b := b) (s := r1.1)
  generalize rvar b r1.1 = r2 at *
  generalize dnum b 16383 d1.1 = d2 at *
  have h3 : St (rfail (decide (16383 < r2.2) || decide (4611686018427387903 - r2.2 < r1.2)) 5 r2.1) (if d2.1.2 = 0 ∧ vMax - d2.2 < d1.2 then (d2.1.1, 5) else d2.1) ∧
      ((rfail (decide (16383 < r2.2) || decide (4611686018427387903 - r2.2 < r1.2)) 5 r2.1).2 = 0 → s.2 = 0 ∧ r1.2 = d1.2 ∧ r2.2 = d2.2) := by
    by_cases hd : d2.1.2 = 0
    · have e0 : (rfail (decide (16383 < r2.2)) 5 r2.1).2 = 0 := h2.1.1.trans hd
      obtain ⟨c1, c2⟩ := rfail_ok0 (by decide) e0
      have e1 := h2.1.2 e0
      rw [c1, rfail_ok] at e1
      have e2 := h2.2 e0
      have e3 := h1.2 (k2 c2)
      rw [c1, Bool.false_or, ← e1, ← e2, ← e3]
      rw [← e1] at hd
      by_cases hz : 4611686018427387903 - r2.2 < r1.2
      · rw [if_pos ⟨hd, hz⟩, decide_eq_true hz]
        obtain ⟨⟨a, e⟩, n⟩ := r2
        simp only [] at hd
        subst hd
        rw [rfail_yes]
        exact ⟨St.rfl, fun h => by simp at h⟩
      · rw [if_neg (fun h => hz h.2), decide_eq_false hz, rfail_ok]
        exact ⟨St.rfl, fun _ => ⟨k1 (k2 c2), Eq.refl _, Eq.refl _⟩⟩
    · rw [if_neg (fun h => hd h.1)]
      have e0 : (rfail (decide (16383 < r2.2)) 5 r2.1).2 ≠ 0 := fun e => hd (h2.1.1.symm.trans e)
      by_cases hr : r2.1.2 = 0
      · have hc : decide (16383 < r2.2) = true := by
          cases hc : decide (16383 < r2.2) with
          | true => exact Eq.refl _
          | false => rw [hc, rfail_ok] at e0; exact absurd hr e0
        rw [hc, Bool.true_or]
        have h4 := h2.1
        rw [hc] at h4
        obtain ⟨⟨a, e⟩, n⟩ := r2
        simp only [] at hr
        subst hr
        rw [rfail_yes] at h4 ⊢
        exact ⟨h4, fun h => by simp at h⟩
      · rw [rfail_bad hr]
        have h4 := h2.1
        rw [rfail_bad hr] at h4
        exact ⟨h4, fun h => absurd h hr⟩
  have h4 := take_st (b := b) r2.2 h3.1
  have k4 := rtake_ok0 (b := b) (n := r2.2) (s := rfail (decide (16383 < r2.2) || decide (4611686018427387903 - r2.2 < r1.2)) 5 r2.1)
  have h3b := h3.1
  have h3c := h3.2
  generalize rfail (decide (16383 < r2.2) || decide (4611686018427387903 - r2.2 < r1.2)) 5 r2.1 = r3 at *
  generalize (if d2.1.2 = 0 ∧ vMax - d2.2 < d1.2 then (d2.1.1, (5 : Int)) else d2.1) = d3 at *
  by_cases hz : r3.2 = 0
  · obtain ⟨z1, z2, z3⟩ := h3c hz
    refine ⟨by rw [← z3]; exact h4.1, fun hh => ?_⟩
    rw [hfg z1, z2, h4.2 hh, z3]
  · have hz' : d3.2 ≠ 0 := fun e => hz (h3b.1.trans e)
    rw [rtake_bad hz, rtake_bad hz']
    exact ⟨h3b, fun h => absurd h hz⟩
theorem go_st {b : List UInt8} : ∀ (many hi : Nat) {s t : Nat × Int} (acc : List (Nat × Nat)), St s t →
    St (rgo b many hi s acc).1 (if (dnum b hi t).1.2 ≠ 0 then ((dnum b hi t).1, acc) else dgo b many (dnum b hi t).1 (acc ++ [(hi - (dnum b hi t).2, hi)])).1 ∧
    ((rgo b many hi s acc).1.2 = 0 → (rgo b many hi s acc).2 = (if (dnum b hi t).1.2 ≠ 0 then ((dnum b hi t).1, acc) else dgo b many (dnum b hi t).1 (acc ++ [(hi - (dnum b hi t).2, hi)])).2) := by
  intro many
  induction many with
  | zero =>
    intro hi s t acc h
    rw [rgo_eq]
    simp only []
    have h1 := num_st (b := b) hi h
    generalize rfail (decide (hi < (rvar b s).2)) 5 (rvar b s).1 = s2 at *
    by_cases hz : s2.2 = 0
    · have hd : (dnum b hi t).1.2 = 0 := h1.1.1.symm.trans hz
      rw [if_neg (by simpa using hz), if_neg (by simpa using hd), h1.2 hz, h1.1.2 hz]
      exact ⟨St.rfl, fun _ => Eq.refl _⟩
    · have hd : (dnum b hi t).1.2 ≠ 0 := fun e => hz (h1.1.1.trans e)
      rw [if_pos hz, if_pos hd]
      exact ⟨h1.1, fun h => absurd h hz⟩
  | succ m ih =>
    intro hi s t acc h
    rw [rgo_eq]
    simp only []
    have h1 := num_st (b := b) hi h
    generalize rfail (decide (hi < (rvar b s).2)) 5 (rvar b s).1 = s2 at *
    by_cases hz : s2.2 = 0
    case neg =>
      have hd : (dnum b hi t).1.2 ≠ 0 := fun e => hz (h1.1.1.trans e)
      rw [if_pos hz, if_pos hd]
      exact ⟨h1.1, fun h => absurd h hz⟩
    have hd : (dnum b hi t).1.2 = 0 := h1.1.1.symm.trans hz
    have e1 := h1.1.2 hz
    have e2 := h1.2 hz
    rw [if_neg (show ¬ s2.2 ≠ 0 by simpa using hz), if_neg (show ¬ (dnum b hi t).1.2 ≠ 0 by simpa using hd), e2]
    generalize dnum b hi t = l at *
    subst e1
    obtain ⟨⟨at_, er⟩, n⟩ := l
    simp only [] at hd e2 ⊢
    subst hd
    rw [dgo_ok, List.length_append, List.length_singleton, Nat.add_sub_cancel, rlo_end _ _ _ (Eq.refl _)]
    simp only []
    have h3 := numM_st (b := b) (St.rfl (s := (at_, (0 : Int))))
    generalize rvar b (at_, 0) = r3 at *
    generalize dnum b vMax (at_, 0) = g at *
    obtain ⟨⟨a3, e3⟩, gap⟩ := r3
    simp only [] at h3 ⊢
    by_cases hz3 : e3 = 0
    case neg =>
      have hg : g.1.2 ≠ 0 := fun e => hz3 (h3.1.1.trans e)
      rw [decide_eq_false hz3, Bool.false_and, rfail_ok, if_pos (show ((a3, e3) : Nat × Int).2 ≠ 0 from hz3), if_pos hg]
      exact ⟨h3.1, fun h => absurd h hz3⟩
    subst hz3
    have hg : g.1.2 = 0 := h3.1.1.symm
    have e4 := h3.1.2 (Eq.refl _)
    have e5 := h3.2 (Eq.refl _)
    obtain ⟨g1, g2⟩ := g
    simp only [] at e4 e5 hg
    subst e4 e5
    rw [if_neg (show ¬ (((a3, (0 : Int)) : Nat × Int), gap).1.2 ≠ 0 by simp), decide_eq_true (p := (0 : Int) = 0) (Eq.refl _), Bool.true_and]
    by_cases hc : hi - n < 2 ∨ hi - n - 2 < gap
    · rw [if_pos hc, show (decide (hi - n < 2) || decide (hi - n - 2 < gap)) = true by simpa using hc, rfail_yes, if_pos (by simp)]
      exact ⟨St.rfl, fun h => by simp at h⟩
    · rw [if_neg hc, show (decide (hi - n < 2) || decide (hi - n - 2 < gap)) = false by simpa using hc, rfail_ok, if_neg (by simp)]
      exact ih (hi - n - 2 - gap) (acc ++ [(hi - n, hi)]) St.rfl
theorem ack_st {b : List UInt8} {s : Nat × Int} (f : Fr) (hf : f.rs = []) : Eqv (rack b s f) (dack b s f) := by
  unfold rack dack
  simp only []
  rw [hf]
  have h1 := numM_st (b := b) (St.rfl (s := s))
  generalize rvar b s = r1 at *
  generalize dnum b vMax s = d1 at *
  have h2 := numM_st (b := b) h1.1
  have k2 := rvar_ok0 (b := b) (s := r1.1)
  generalize rvar b r1.1 = r2 at *
  generalize dnum b vMax d1.1 = d2 at *
  have h3 := num_st (b := b) 7 h2.1
  have k3 := rvar_ok0 (b := b) (s := r2.1)
  generalize rvar b r2.1 = r3 at *
  generalize dnum b 7 d2.1 = d3 at *
  rw [show decide (8 ≤ r3.2) = decide (7 < r3.2) from decide_eq_decide.2 (by omega)]
  have k4 := rfail_ok0 (c := decide (7 < r3.2)) (x := 5) (s := r3.1) (by decide)
  generalize rfail (decide (7 < r3.2)) 5 r3.1 = s4 at *
  by_cases hz : s4.2 = 0
  · have c3 := (k4 hz).2
    have c2 := k3 c3
    have c1 := k2 c2
    have e1 := h1.2 c1
    have e2 := h2.2 c2
    have e3 := h3.2 hz
    have h5 := go_st (b := b) r3.2 r1.2 [] h3.1
    rw [e1, e3] at h5 ⊢
    rw [e2]
    rw [List.nil_append] at h5
    by_cases hl : (dnum b d1.2 d3.1).1.2 = 0
    · rw [if_neg (by simpa using hl)] at h5 ⊢
      exact ⟨h5.1, fun hh => by rw [h5.2 hh]⟩
    · rw [if_pos hl] at h5 ⊢
      refine ⟨h5.1, fun hh => absurd (h5.1.1.symm.trans hh) hl⟩
  · have hd : d3.1.2 ≠ 0 := fun e => hz (h3.1.1.trans e)
    rw [dnum_bad hd, if_pos hd]
    have hr : (rgo b r3.2 r1.2 s4 []).1 = s4 := by
      rw [rgo_eq]
      simp only []
      rw [rvar_bad hz, rfail_bad hz, if_pos hz]
    refine ⟨by rw [hr]; exact h3.1, fun hh => absurd (hr ▸ hh) hz⟩
theorem cid_st {b : List UInt8} {s : Nat × Int} (f : Fr) : Eqv (rcid b s f) (dcid b s f) := by
  unfold rcid dcid
  simp only []
  have h1 := numM_st (b := b) (St.rfl (s := s))
  generalize rvar b s = r1 at *
  generalize dnum b vMax s = d1 at *
  have h2 := zero_st (b := b) h1.1
  have k2 : (rzero b r1.1).2 = 0 → r1.1.2 = 0 := fun e => rvar_ok0 (rfail_ok0 (by decide) e).2
  generalize rzero b r1.1 = r2 at *
  generalize (dnum b 0 d1.1).1 = d2 at *
  have h3 := take_st (b := b) 1 h2
  have k3 := rtake_ok0 (b := b) (n := 1) (s := r2)
  have f3 := rtake_full (b := b) (n := 1) (s := r2)
  generalize rtake b 1 r2 = r3 at *
  generalize rtake b 1 d2 = d3 at *
  have h4 : St (rfail (decide (r3.2.length = 1) && (nth r3.2 0 != 8)) 5 r3.1) (if d3.1.2 = 0 ∧ nth d3.2 0 ≠ 8 then (d3.1.1, 5) else d3.1) := by
    by_cases hz : r3.1.2 = 0
    · have e1 := h3.1.2 hz
      have e2 := h3.2 hz
      rw [f3 hz, decide_eq_true (p := 1 = 1) (Eq.refl _), Bool.true_and, ← e1, ← e2]
      by_cases hn : nth r3.2 0 = 8
      · rw [if_neg (fun h => h.2 hn), hn]
        exact St.rfl
      · rw [if_pos ⟨hz, hn⟩, show (nth r3.2 0 != 8) = true by simpa using hn]
        obtain ⟨⟨a, e⟩, n⟩ := r3
        simp only [] at hz
        subst hz
        rw [rfail_yes]
        exact St.rfl
    · have hz' : d3.1.2 ≠ 0 := fun e => hz (h3.1.1.trans e)
      rw [rfail_bad hz, if_neg (fun h => hz' h.1)]
      exact h3.1
  have k4 : (rfail (decide (r3.2.length = 1) && (nth r3.2 0 != 8)) 5 r3.1).2 = 0 → r3.1.2 = 0 := fun e => (rfail_ok0 (by decide) e).2
  generalize rfail (decide (r3.2.length = 1) && (nth r3.2 0 != 8)) 5 r3.1 = r4 at *
  generalize (if d3.1.2 = 0 ∧ nth d3.2 0 ≠ 8 then (d3.1.1, (5 : Int)) else d3.1) = d4 at *
  have h5 := take_st (b := b) 8 h4
  have k5 := rtake_ok0 (b := b) (n := 8) (s := r4)
  generalize rtake b 8 r4 = r5 at *
  generalize rtake b 8 d4 = d5 at *
  have h6 := take_st (b := b) 16 h5.1
  have k6 := rtake_ok0 (b := b) (n := 16) (s := r5.1)
  generalize rtake b 16 r5.1 = r6 at *
  generalize rtake b 16 d5.1 = d6 at *
  refine ⟨h6.1, fun hh => ?_⟩
  rw [h6.2 hh, h5.2 (k6 hh), h1.2 (k2 (k3 (k4 (k5 (k6 hh)))))]
theorem body_st {b : List UInt8} {s : Nat × Int} (f : Fr) (hf : f.rs = []) : Eqv (rbody b s f) (dbody b s f) := by
  by_cases h1 : f.k = 1 ∨ f.k = 30
  · rw [rbody_1 b s f h1, dbody_1 b s f h1]; exact ⟨St.rfl, fun _ => Eq.refl _⟩
  by_cases h2 : f.k = 2
  · rw [rbody_2 b s f h2, dbody_2 b s f h2]; exact ack_st f hf
  by_cases h14 : f.k = 14 ∨ f.k = 15
  · rw [rbody_14 b s f h14, dbody_14 b s f h14]
    have h := numM_st (b := b) (St.rfl (s := s))
    exact bytes_st h.1 _ _ (fun e => by rw [h.2 e])
  by_cases h6 : f.k = 6
  · rw [rbody_6 b s f h6, dbody_6 b s f h6]; exact bytes_st St.rfl _ _ (fun _ => Eq.refl _)
  by_cases h16 : f.k = 16 ∨ f.k = 25
  · rw [rbody_16 b s f h16, dbody_16 b s f h16]
    have h := numM_st (b := b) (St.rfl (s := s))
    exact ⟨h.1, fun e => by show ({ f with n := _ } : Fr) = { f with n := _ }; rw [h.2 e]⟩
  by_cases h28 : f.k = 28
  · rw [rbody_28 b s f h28, dbody_28 b s f h28]
    have h := numM_st (b := b) (St.rfl (s := s))
    have hA := zero_st (b := b) h.1
    have hB := zero_st (b := b) hA
    refine ⟨hB, fun e => ?_⟩
    have e1 := rvar_ok0 (rfail_ok0 (by decide) e).2
    have e2 := rvar_ok0 (rfail_ok0 (by decide) e1).2
    show ({ f with n := _ } : Fr) = { f with n := _ }
    rw [h.2 e2]
  by_cases h24 : f.k = 24
  · rw [rbody_24 b s f h24, dbody_24 b s f h24]; exact cid_st f
  by_cases h26 : f.k = 26 ∨ f.k = 27
  · rw [rbody_26 b s f h26, dbody_26 b s f h26]; exact ⟨St.rfl, fun _ => Eq.refl _⟩
  rw [rbody_no b s f (by omega), dbody_no b s f (by omega)]
  exact ⟨St.rfl, fun _ => Eq.refl _⟩
theorem dget_eq (b : List UInt8) : dget b = fget b := by
  unfold dget fget
  by_cases h0 : b.length = 0
  · rw [if_pos h0, if_pos h0]
  rw [if_neg h0, if_neg h0]
  by_cases hz : nth b 0 = 0
  · rw [if_pos hz, hz, if_neg (by decide), if_pos (Eq.refl _)]
  rw [if_neg hz]
  have hst := body_st (b := b) (s := (1, 0)) { fr0 with k := (n8 (nth b 0) : Nat) } (Eq.refl _)
  by_cases h63 : 63 < n8 (nth b 0)
  · rw [if_pos h63, dbody_no b _ _ (by
      show ((n8 (nth b 0) : Nat) : Int) ≠ 1 ∧ ((n8 (nth b 0) : Nat) : Int) ≠ 30 ∧ ((n8 (nth b 0) : Nat) : Int) ≠ 2 ∧ ((n8 (nth b 0) : Nat) : Int) ≠ 6 ∧ ((n8 (nth b 0) : Nat) : Int) ≠ 14 ∧ ((n8 (nth b 0) : Nat) : Int) ≠ 15 ∧ ((n8 (nth b 0) : Nat) : Int) ≠ 16 ∧ ((n8 (nth b 0) : Nat) : Int) ≠ 25 ∧ ((n8 (nth b 0) : Nat) : Int) ≠ 24 ∧ ((n8 (nth b 0) : Nat) : Int) ≠ 26 ∧ ((n8 (nth b 0) : Nat) : Int) ≠ 27 ∧ ((n8 (nth b 0) : Nat) : Int) ≠ 28
      omega)]
    simp
  rw [if_neg h63, if_neg hz]
  simp only []
  generalize rbody b (1, 0) { fr0 with k := (n8 (nth b 0) : Nat) } = r at *
  generalize dbody b (1, 0) { fr0 with k := (n8 (nth b 0) : Nat) } = d at *
  by_cases h : r.1.2 = 0
  · have hd : d.1.2 = 0 := hst.1.1.symm.trans h
    rw [if_neg (show ¬ r.1.2 ≠ 0 by simpa using h), if_neg (show ¬ d.1.2 ≠ 0 by simpa using hd), hst.2 h, hst.1.2 h]
  · have hd : d.1.2 ≠ 0 := fun e => h (hst.1.1.trans e)
    rw [if_pos h, if_pos hd, hst.1.1]
end Frm
end
section
/- The walk of the document's All: the frames of bytes. -/
namespace Go.Proofs.Ytipniobgijdlkaa
open Go.RowKit Go.Rw Frm Hdr
attribute [local go_sem ↓] ldFF stFF alFF
attribute [local go_sem] rldFF rstFF ralFF setRow_alloc_at setRow_alloc_past setRow_drew
theorem dgetf_any (b : List UInt8) (hb : b.length ≤ 1000000) (vb : Value) (w : World) (hs : Sl w vb b) :
    Calls Try.prog 35 #[vb] w (FGet w (fget b)) := by
  rw [← dget_eq]
  exact dget_any b hb vb w hs
set_option maxRecDepth 100000 in
set_option maxHeartbeats 4000000 in
theorem dall_any (b : List UInt8) (hb : b.length ≤ 100000) (vb : Value) (w : World) (hs : Sl w vb b) :
    Calls Try.prog 21 #[vb] w (FAll w (fall b)) := by
  obtain ⟨i0, hi0, hz0, hz1, hz2⟩ := info_parts infoFr
  obtain ⟨q, hq⟩ : ∃ q, fall b = q := ⟨_, rfl⟩
  rw [hq]
  unfold fall at hq
  have HQ := Lib.hid hq
  have HS := Lib.hid hs
  obtain ⟨ao, cap, rfl, hc, -, -⟩ := id hs
  clear hq hs
  go_enter Try.func21, Try.ntmps21
  go_wp2_with fail
  go_loopw [0, 4, 5, 6, 7] (fun v0 v4 v5 v6 v7 wr => ∃ (k : Nat) (rest : List UInt8) (out : List Fr), rest.length ≤ b.length ∧ rest.length ≤ k ∧ Sl w v0 rest ∧ OwnFs wr w.heap.size 28 v4 out ∧ out.length ≤ 64 ∧ fallGo k rest out = q ∧ Below w.heap.size w wr) (fun v0 _ _ _ _ _ => lenOf v0)
  case atStart => exact ⟨b.length, b, [], Nat.le_refl _, Nat.le_refl _, HS.out, OwnFs.nil _ _ _, by simp, HQ.out, Below.refl _ _⟩
  case round =>
    obtain ⟨k, rest, out, hr1, hr2, hsr, hof, hol, hgo, hbw⟩ := hrel
    obtain ⟨a0, x0, rfl, hx0, -, -⟩ := id hsr
    obtain ⟨a4, x4, rfl⟩ := hof.shape
    have SR := Lib.hid hsr
    have OF := Lib.hid hof
    have GO := Lib.hid hgo
    have BW := Lib.hid hbw
    clear hsr hof hgo hbw HQ HS
    by_cases h0 : rest.length = 0
    case pos =>
      have p : decide (0 < rest.length) = false := decide_eq_false (by omega)
      have hgo := GO.out
      obtain rfl : rest = [] := List.eq_nil_of_length_eq_zero h0
      rw [fallGo_nil] at hgo
      by_cases ho : out.length = 0
      · rw [if_pos ho] at hgo
        subst hgo
        have q0 : ((out.length : Int) == 0) = true := by rw [beq_iff_eq]; omega
        clear GO ho h0
        go_wp2_with fail
        go_ret2
        exact ⟨_, rfl, OwnFs.nil _ _ _, BW.out⟩
      · rw [if_neg ho] at hgo
        subst hgo
        have q0 : ((out.length : Int) == 0) = false := by rw [beq_eq_false_iff_ne]; omega
        clear GO ho h0
        go_wp2_with fail
        go_ret2
        exact ⟨_, rfl, OF.out, BW.out⟩
    have p : decide (0 < rest.length) = true := decide_eq_true (by omega)
    obtain ⟨k, rfl⟩ : ∃ k', k = k' + 1 := ⟨k - 1, by omega⟩
    have hgo := GO.out
    unfold fallGo at hgo
    rw [if_neg h0] at hgo
    have hmany := fget_many (b := rest) (by omega)
    have hget := dgetf_any rest (by omega) (.slice a0 rest.length x0) wr (SR.out.below BW.out)
    obtain ⟨⟨f, many, er⟩, hfg⟩ : ∃ q, fget rest = q := ⟨_, rfl⟩
    rw [hfg] at hgo hmany hget
    simp only [] at hgo hmany
    have GO2 := Lib.hid hgo
    have HM := Lib.hid hmany
    have HG := Lib.hid hget
    have H0 := Lib.hid h0
    clear hgo hmany hget hfg h0 GO
    go_wp2_with fail
    refine HG.out.mono ?_
    rintro e w1 ⟨vf, rfl, fo, b1⟩
    obtain ⟨A, rfl, fva⟩ := fo.fva (g := (Value.slice a4 out.length x4).ownBlock) (fun k hk => (OF.out.lt k hk).2)
    have of1 := OF.out.below b1
    have hA10 := fva.size.1
    have hA1 := fva.size.2
    have FV := Lib.hid fva
    have OF1 := Lib.hid of1
    have BW1 := Lib.hid (BW.out.trans (b1.mono BW.out.size))
    clear fo of1 fva b1 HG OF BW
    simp only []
    by_cases h64 : out.length = 64
    case pos =>
      have hgo := GO2.out
      rw [if_pos h64, if_pos (by decide)] at hgo
      subst hgo
      have q64 : ((out.length : Int) == 64) = true := by rw [beq_iff_eq]; omega
      have H64 := Lib.hid h64
      clear h64 GO2
      go_wp2_with fail
      go_ret2
      exact ⟨_, rfl, OwnFs.nil _ _ _, BW1.out.alloc BW1.out.size _⟩
    have q64 : ((out.length : Int) == 64) = false := by rw [beq_eq_false_iff_ne]; omega
    by_cases he : er = 0
    case neg =>
      have hgo := GO2.out
      rw [if_neg h64, if_pos he] at hgo
      subst hgo
      have qe : (er != 0) = true := by simpa using he
      have H64 := Lib.hid h64
      have HE := Lib.hid he
      clear h64 GO2 he
      go_wp2_with fail
      go_ret2
      exact ⟨_, rfl, OwnFs.nil _ _ _, BW1.out.alloc BW1.out.size _⟩
    subst he
    have hgo := GO2.out
    rw [if_neg h64, if_neg (by decide)] at hgo
    have hm := HM.out rfl
    obtain ⟨out2, ho2⟩ : ∃ o, out ++ [f] = o := ⟨_, rfl⟩
    have kout : out2.length ≤ 64 := by rw [← ho2]; simp only [List.length_append, List.length_cons, List.length_nil]; omega
    rw [ho2] at hgo
    have GO3 := Lib.hid hgo
    have HO2 := Lib.hid ho2
    clear hgo GO2 HM ho2
    have hol2 : out.length + 1 ≤ 64 := by omega
    have H64 := Lib.hid h64
    clear h64
    have hcut : ∀ W, (Instr.sliceAt 25 (.slice a0 rest.length x0) (some (.int .i64 (many : Nat))) none none).run Try.prog W = .ok (.slice (cutA a0 many x0) (rest.length - many) (x0 - many)) W := fun W => by
      rw [cut_l TB W _ _ _ _ _ (by omega) (by omega), Int.toNat_natCast]
    have hsc := SR.out.cut many rest.length hm.2 (Nat.le_refl _)
    rw [List.take_length] at hsc
    have SC := Lib.hid hsc
    clear hsc
    have bA := (Below.refl w1.heap.size w1).alloc (Nat.le_refl _) (.cells A 28)
    have bB := (Below.refl (w1.alloc (.cells A 28)).heap.size (w1.alloc (.cells A 28))).alloc (Nat.le_refl _) (.cells A 28)
    have FV2 := Lib.hid ((FV.out.below bA).below bB)
    have OF2 := Lib.hid ((OF1.out.below bA).below bB)
    have RA := Lib.hid (show row? ((w1.alloc (.cells A 28)).alloc (.cells A 28)) (w1.heap.size + 1) = some A from row?_alloc_at _ _ _ _ (by simp))
    have BW2 := Lib.hid ((BW1.out.alloc BW1.out.size (.cells A 28)).alloc (by have := BW1.out.size; simp; omega) (.cells A 28))
    clear bA bB
    have hfold := fold_cells A hA10
    go_wp2_with (at_builtin; refine Classical.byContradiction ?_)
    intro hh; apply hh; clear hh
    refine app_fs rfl _ _ 32 rfl w.heap.size 28 i0 _ 144 Try.underlying32 hi0 hz0 rfl hz1 hz2 (by decide) (.slice a4 out.length x4) out rfl OF2.out (w1.heap.size + 1) 1 A f rfl RA.out FV2.out (by omega) (by have := BW2.out.size; exact this) ?_
    intro v5 w5 of5 g5
    rw [HO2.out] at of5
    obtain ⟨a5, x5, rfl⟩ := of5.shape
    have OF5 := Lib.hid of5
    have BW5 := Lib.hid (BW2.out.grown g5 BW2.out.size (fun k hk => (OF2.out.lt k hk).1))
    clear of5 g5 hfold
    go_wp2_with fail
    go_roundw
    case rel =>
      refine ⟨k, (rest.drop many), out2, by rw [List.length_drop]; omega, by rw [List.length_drop]; omega, ?_, OF5.out, kout, GO3.out, BW5.out⟩
      exact SC.out
    case measure => show lenOf (Value.slice _ _ _) < lenOf (Value.slice _ _ _); simp [lenOf]; omega
end Go.Proofs.Ytipniobgijdlkaa
end
