/- FrmGt; FrmO1. -/
import Derived.Test.YtipniobgijdlkaaMgs19
import Derived.Test.YtipniobgijdlkaaMgs20
import Derived.Test.YtipniobgijdlkaaMgsLibG2
section
/- The walk of GreatFrame: is a frame more than is gone through? (printed by gen_great.py) -/
namespace Frm
open Go Go.RowKit Go.Rw Hdr
def greatB (f : Fr) : Bool := decide (12 < f.rs.length) || decide (300 < f.dat.length) || decide (30 < f.cid.length) || decide (30 < f.tok.length) || (decide (f.k = 0) && decide (400 < f.n))
end Frm
namespace Go.Proofs.Ytipniobgijdlkaa
open Go.RowKit Go.Rw Frm Hdr
attribute [local go_sem ↓] ldFF stFF alFF
attribute [local go_sem] rldFF rstFF ralFF setRow_alloc_at setRow_alloc_past setRow_drew
set_option maxHeartbeats 2000000 in
theorem great_any (f : Fr) (v : Value) (w : World) (hv : Fv w v f) :
    Calls Try.prog 18 #[v] w fun e w' => e = .returned (.bool (greatB f)) ∧ Below w.heap.size w w' := by
  obtain ⟨vr, vd, vc, vt, rfl, h1, h2, h3, h4⟩ := hv
  obtain ⟨ar, er, rfl, -, -, -⟩ := h1
  obtain ⟨ad, ed, rfl, -, -, -⟩ := h2
  obtain ⟨ac, ec, rfl, -, -, -⟩ := h3
  obtain ⟨at_, et, rfl, -, -, -⟩ := h4
  have B1 := Lib.hid (((Below.refl w.heap.size w).alloc (Nat.le_refl _) (.cells (fvA f.k f.n f.d (.slice ar f.rs.length er) f.i f.o f.fin (.slice ad f.dat.length ed) (.slice ac f.cid.length ec) (.slice at_ f.tok.length et)) 28)))
  obtain ⟨c0, c1, c2, c3, c4, c5, c6, c7, c8, c9⟩ := fv_cells (row?_alloc_at w (fvA f.k f.n f.d (.slice ar f.rs.length er) f.i f.o f.fin (.slice ad f.dat.length ed) (.slice ac f.cid.length ec) (.slice at_ f.tok.length et)) 28 w.heap.size rfl)
  generalize fvA f.k f.n f.d (.slice ar f.rs.length er) f.i f.o f.fin (.slice ad f.dat.length ed) (.slice ac f.cid.length ec) (.slice at_ f.tok.length et) = F at *
  obtain ⟨r, hr⟩ : ∃ r, greatB f = r := ⟨_, rfl⟩
  rw [hr]
  unfold greatB at hr
  generalize f.rs.length = nr at *
  generalize f.dat.length = nd at *
  generalize f.cid.length = nc at *
  generalize f.tok.length = nt at *
  generalize f.k = k at *
  generalize f.n = n at *
  clear c2 c4 c5 c6
  go_enter Try.func18, Try.ntmps18
  by_cases g0 : 12 < nr
  · have p0 : decide ((12 : Int) < (nr : Nat)) = true := decide_eq_true (by omega)
    have hr' : r = true := by rw [← hr]; simp [g0]
    have HR := Lib.hid hr'
    clear hr hr' g0
    go_wp2_with fail
    go_ret
    exact ⟨congrArg (fun z => Ending.returned (.bool z)) HR.out.symm, B1.out⟩
  have p0 : decide ((12 : Int) < (nr : Nat)) = false := decide_eq_false (by omega)
  by_cases g1 : 300 < nd
  · have p1 : decide ((300 : Int) < (nd : Nat)) = true := decide_eq_true (by omega)
    have hr' : r = true := by rw [← hr]; simp [g0, g1]
    have HR := Lib.hid hr'
    clear hr hr' g0 g1
    go_wp2_with fail
    go_ret
    exact ⟨congrArg (fun z => Ending.returned (.bool z)) HR.out.symm, B1.out⟩
  have p1 : decide ((300 : Int) < (nd : Nat)) = false := decide_eq_false (by omega)
  by_cases g2 : 30 < nc
  · have p2 : decide ((30 : Int) < (nc : Nat)) = true := decide_eq_true (by omega)
    have hr' : r = true := by rw [← hr]; simp [g0, g1, g2]
    have HR := Lib.hid hr'
    clear hr hr' g0 g1 g2
    go_wp2_with fail
    go_ret
    exact ⟨congrArg (fun z => Ending.returned (.bool z)) HR.out.symm, B1.out⟩
  have p2 : decide ((30 : Int) < (nc : Nat)) = false := decide_eq_false (by omega)
  by_cases g3 : 30 < nt
  · have p3 : decide ((30 : Int) < (nt : Nat)) = true := decide_eq_true (by omega)
    have hr' : r = true := by rw [← hr]; simp [g0, g1, g2, g3]
    have HR := Lib.hid hr'
    clear hr hr' g0 g1 g2 g3
    go_wp2_with fail
    go_ret
    exact ⟨congrArg (fun z => Ending.returned (.bool z)) HR.out.symm, B1.out⟩
  have p3 : decide ((30 : Int) < (nt : Nat)) = false := decide_eq_false (by omega)
  by_cases g4 : k = 0
  case neg =>
    have p4 : (k == 0) = false := by simpa using g4
    have hr' : r = false := by rw [← hr]; simp [g0, g1, g2, g3, g4]
    have HR := Lib.hid hr'
    clear hr hr' g0 g1 g2 g3 g4
    go_wp2_with fail
    go_ret
    exact ⟨congrArg (fun z => Ending.returned (.bool z)) HR.out.symm, B1.out⟩
  have p4 : (k == 0) = true := by simpa using g4
  by_cases g5 : 400 < n
  · have p5 : decide ((400 : Int) < (n : Nat)) = true := decide_eq_true (by omega)
    have hr' : r = true := by rw [← hr]; simp [g0, g1, g2, g3, g4, g5]
    have HR := Lib.hid hr'
    clear hr hr' g0 g1 g2 g3 g4 g5
    go_wp2_with fail
    go_ret
    exact ⟨congrArg (fun z => Ending.returned (.bool z)) HR.out.symm, B1.out⟩
  · have p5 : decide ((400 : Int) < (n : Nat)) = false := decide_eq_false (by omega)
    have hr' : r = false := by rw [← hr]; simp [g0, g1, g2, g3, g4, g5]
    have HR := Lib.hid hr'
    clear hr hr' g0 g1 g2 g3 g4 g5
    go_wp2_with fail
    go_ret
    exact ⟨congrArg (fun z => Ending.returned (.bool z)) HR.out.symm, B1.out⟩
end Go.Proofs.Ytipniobgijdlkaa
end
section
/- Frames laid one behind the other, zeros that touch being one, are read as they were: in plain words. -/
namespace Frm
open Go Go.RowKit Go.Rw Hdr
theorem nil_or_snoc (W : List Fr) : W = [] ∨ ∃ init l, W = init ++ [l] := by
  rcases List.eq_nil_or_concat W with h | ⟨init, l, h⟩
  · exact .inl h
  · exact .inr ⟨init, l, by rw [h, List.concat_eq_append]⟩
/-- No two pieces of padding touch. -/
def alt : List Fr → Prop
  | [] => True
  | [_] => True
  | f :: g :: r => ¬ (f.k = 0 ∧ g.k = 0) ∧ alt (g :: r)
theorem alt_snoc : ∀ (W : List Fr) (f : Fr), alt W → (∀ init l, W = init ++ [l] → ¬ (l.k = 0 ∧ f.k = 0)) → alt (W ++ [f]) := by
  intro W
  induction W with
  | nil => intro f _ _; trivial
  | cons a W ih =>
    intro f h hl
    cases W with
    | nil => exact ⟨hl [] a rfl, trivial⟩
    | cons b r =>
      refine ⟨h.1, ?_⟩
      exact ih f h.2 (fun init l e => hl (a :: init) l (by rw [e]; rfl))
theorem alt_last : ∀ (W : List Fr) (l l' : Fr), alt (W ++ [l]) → (l'.k = 0 → l.k = 0) → alt (W ++ [l']) := by
  intro W
  induction W with
  | nil => intro l l' _ _; trivial
  | cons a W ih =>
    intro l l' h hk
    cases W with
    | nil => exact ⟨fun e => h.1 ⟨e.1, hk e.2⟩, trivial⟩
    | cons b r => exact ⟨h.1, ih l l' h.2 hk⟩
/-- A frame that may be: padding of at most so many, or another that is not long. -/
def PW (m : Nat) (f : Fr) : Prop := (∃ n, f = padF n ∧ 1 ≤ n ∧ n ≤ m) ∨ (f.k ≠ 0 ∧ f.may = true ∧ f.fits ∧ f.put.length ≤ 9000)
theorem PW.mono {m m' : Nat} {f : Fr} (h : PW m f) (hm : m ≤ m') : PW m' f := by
  rcases h with ⟨n, e, h1, h2⟩ | h
  · exact .inl ⟨n, e, h1, by omega⟩
  · exact .inr h
theorem PW.fits {m : Nat} {f : Fr} (h : PW m f) : f.fits := by
  rcases h with ⟨n, rfl, h1, h2⟩ | h
  · exact ⟨by simp [padF, fr0], by simp [padF, fr0], by simp [padF, fr0], by simp [padF, fr0]⟩
  · exact h.2.2.1
theorem pad_put (n : Nat) : (padF n).put = List.replicate n 0 := by
  unfold Fr.put padF
  rw [if_pos (by rfl)]
theorem PW.len {m : Nat} {f : Fr} (h : PW m f) (hm : m ≤ 9000) : f.put.length ≤ 9000 := by
  rcases h with ⟨n, rfl, h1, h2⟩ | h
  · rw [pad_put, List.length_replicate]; omega
  · exact h.2.2.2
/-- Of what is not more than is gone through, each frame that may be. -/
theorem pw_of {f : Fr} (hg : ¬ greatB f = true) (hm : f.may = true) : PW 400 f := by
  unfold greatB at hg
  simp only [Bool.or_eq_true, Bool.and_eq_true, decide_eq_true_eq] at hg
  by_cases hk : f.k = 0
  · left
    obtain ⟨k, n, d, rs, i, o, fin, dat, cid, tok⟩ := f
    simp only [] at hk
    subst hk
    unfold Fr.may mayB at hm
    simp only [if_pos, plainB, Bool.and_eq_true, decide_eq_true_eq, Bool.not_eq_true', List.length_eq_zero_iff] at hm
    obtain ⟨⟨h1, h2⟩, ⟨⟨⟨⟨⟨⟨⟨⟨-, rfl⟩, rfl⟩, rfl⟩, rfl⟩, rfl⟩, rfl⟩, rfl⟩, rfl⟩⟩ := hm
    have h4 : ¬ 400 < n := fun h => hg (Or.inr ⟨rfl, h⟩)
    exact ⟨n, rfl, h1, by omega⟩
  · right
    exact ⟨hk, hm, ⟨by omega, by omega, by omega, by omega⟩, by have := put_most f 400 (by omega) (by omega) (by omega) (by omega) (fun e => absurd e hk); omega⟩
theorem PW.put_len {m : Nat} {f : Fr} (h : PW m f) (hm : m ≤ 16384) : f.laid = f.put := by
  unfold Fr.laid
  rcases h with ⟨n, rfl, h1, h2⟩ | h
  · rw [if_pos]
    unfold Fr.may mayB padF
    rw [if_pos (by rfl)]
    simp [plainB, fr0]
    omega
  · rw [if_pos h.2.1]
theorem PW.first {m : Nat} {f : Fr} (h : PW m f) (hk : f.k ≠ 0) : nth f.put 0 ≠ 0 ∧ 1 ≤ f.put.length := by
  rcases h with ⟨n, rfl, h1, h2⟩ | h
  · exact absurd rfl hk
  · exact put_first h.2.1 hk
/-- One more frame; zeros that touch are one. -/
def mrg (W : List Fr) (f : Fr) : List Fr :=
  match W.getLast? with
  | some l => if f.k = 0 ∧ l.k = 0 then W.dropLast ++ [{ l with n := l.n + f.n }] else W ++ [f]
  | none => W ++ [f]
theorem mrg_nil (f : Fr) : mrg [] f = [f] := rfl
theorem mrg_one {init : List Fr} {l f : Fr} (h : f.k = 0 ∧ l.k = 0) : mrg (init ++ [l]) f = init ++ [{ l with n := l.n + f.n }] := by
  unfold mrg
  rw [List.getLast?_concat]
  simp only []
  rw [if_pos h, List.dropLast_concat]
theorem mrg_more {init : List Fr} {l f : Fr} (h : ¬ (f.k = 0 ∧ l.k = 0)) : mrg (init ++ [l]) f = init ++ [l] ++ [f] := by
  unfold mrg
  rw [List.getLast?_concat]
  simp only []
  rw [if_neg h]
/-- What stands behind so many frames. -/
structure Rows (i : Nat) (b : List UInt8) (W : List Fr) : Prop where
  bytes : b = cat W
  alt_ : alt W
  each : ∀ f, f ∈ W → PW (400 * i) f
  len : W.length ≤ i
  some_ : 1 ≤ i → W ≠ []
theorem Rows.nil : Rows 0 [] [] := ⟨rfl, trivial, fun f h => by simp at h, by simp, fun h => by omega⟩
theorem Rows.step {i : Nat} {b : List UInt8} {W : List Fr} {f : Fr} (h : Rows i b W) (hf : PW 400 f) : Rows (i + 1) (b ++ f.put) (mrg W f) := by
  have hn : ∀ W', (∀ g, g ∈ W' → PW (400 * i) g) → ∀ g, g ∈ W' ++ [f] → PW (400 * (i + 1)) g := by
    intro W' hW g hg
    rcases List.mem_append.1 hg with h1 | h1
    · exact (hW g h1).mono (by omega)
    · rw [List.mem_singleton] at h1
      rw [h1]
      exact hf.mono (by omega)
  rcases nil_or_snoc W with rfl | ⟨init, l, rfl⟩
  · rw [mrg_nil]
    exact ⟨by rw [h.bytes]; simp [cat], trivial, hn [] (fun g hg => by simp at hg), by simp, fun _ => by simp⟩
  · by_cases hk : f.k = 0 ∧ l.k = 0
    · rw [mrg_one hk]
      have hl := h.each l (by simp)
      rcases hl with ⟨n, rfl, h1, h2⟩ | hl
      case inr => exact absurd hk.2 hl.1
      rcases hf with ⟨n', rfl, h1', h2'⟩ | hf
      case inr => exact absurd hk.1 hf.1
      refine ⟨?_, alt_last init _ _ h.alt_ (fun _ => rfl), ?_, by have := h.len; rw [List.length_append, List.length_singleton] at this ⊢; omega, fun _ => by simp⟩
      · rw [h.bytes, cat_snoc, cat_snoc, List.append_assoc]
        congr 1
        rw [pad_put, pad_put]
        show _ = (padF (n + n')).put
        rw [pad_put, List.replicate_append_replicate]
      · intro g hg
        rcases List.mem_append.1 hg with h3 | h3
        · exact (h.each g (by simp [h3])).mono (by omega)
        · rw [List.mem_singleton] at h3
          rw [h3]
          exact .inl ⟨n + n', rfl, by omega, by omega⟩
    · rw [mrg_more hk]
      refine ⟨by rw [h.bytes, cat_snoc (init ++ [l]) f], alt_snoc _ f h.alt_ (fun init' l' e => ?_), hn _ h.each, by have := h.len; simp at this ⊢; omega, fun _ => by simp⟩
      have e2 := List.append_inj_right' e rfl
      rw [List.singleton_inj] at e2
      rw [← e2]
      exact fun x => hk ⟨x.2, x.1⟩
theorem fallR_alt : ∀ (W : List Fr) (out : List Fr) (m : Nat), m ≤ 9000 → alt W → (∀ f, f ∈ W → PW m f) → out.length + W.length ≤ 64 → out.length + W.length ≠ 0 → fallR (cat W) out = (out ++ W, 0) := by
  intro W
  induction W with
  | nil =>
    intro out m _ _ _ _ h0
    rw [show cat [] = [] from rfl, fallR_nil _ (by simpa using h0), List.append_nil]
  | cons f W ih =>
    intro out m hm9 ha hp hl h0
    have hf := hp f List.mem_cons_self
    simp only [List.length_cons] at hl
    have hW : fallR (cat W) (out ++ [f]) = (out ++ [f] ++ W, 0) := by
      refine ih (out ++ [f]) m hm9 ?_ (fun g hg => hp g (List.mem_cons_of_mem _ hg)) (by simp; omega) (by simp)
      cases W with
      | nil => trivial
      | cons g r => exact ha.2
    have e : cat (f :: W) = f.put ++ cat W := by simp [cat]
    rw [e]
    by_cases hk : f.k = 0
    · rcases hf with ⟨n, rfl, h1, h2⟩ | hf
      case inr => exact absurd hk hf.1
      have hy : ∀ c t, cat W = c :: t → c ≠ 0 := by
        intro c t e
        cases W with
        | nil => cases e
        | cons g r =>
          have hgk : g.k ≠ 0 := fun e => ha.1 ⟨hk, e⟩
          obtain ⟨q1, q2⟩ := (hp g (by simp)).first hgk
          have e2 : cat (g :: r) = g.put ++ cat r := by simp [cat]
          rw [e2] at e
          match hq : g.put, q2 with
          | c' :: t', _ =>
            rw [hq] at e q1
            injection e with e3
            rw [← e3]
            exact q1
      have hg := fget_zeros n (by omega) (cat W) hy
      rw [Nat.min_eq_left (by omega)] at hg
      rw [pad_put, fallR_step (by simp; omega) (by omega) hg, List.drop_left' (by simp), hW, List.append_assoc]
      rfl
    · rcases hf with ⟨n, rfl, h1, h2⟩ | hf
      · exact absurd rfl hk
      · rw [fallR_frame hf.2.1 hk (by omega), hW, List.append_assoc]
        rfl
theorem Rows.fall {i : Nat} {b : List UInt8} {W : List Fr} (h : Rows i b W) (h1 : 1 ≤ i) (h8 : i ≤ 8) : Frm.fall b = (W, 0) := by
  have := h.len
  have hne : W.length ≠ 0 := by intro e; exact h.some_ h1 (List.eq_nil_of_length_eq_zero e)
  rw [h.bytes]
  show fallR (cat W) [] = _
  rw [fallR_alt W [] (400 * i) (by omega) h.alt_ h.each (by simp; omega) (by simpa using hne)]
  rfl
theorem cat_most : ∀ (W : List Fr) (m : Nat), m ≤ 9000 → (∀ f, f ∈ W → PW m f) → (cat W).length ≤ 9000 * W.length := by
  intro W m hm
  induction W with
  | nil => intro _; simp [cat]
  | cons f W ih =>
    intro h
    have h1 := (h f List.mem_cons_self).len hm
    have h2 := ih (fun g hg => h g (List.mem_cons_of_mem _ hg))
    have e : cat (f :: W) = f.put ++ cat W := by simp [cat]
    rw [e, List.length_append, List.length_cons]
    omega
theorem Rows.most {i : Nat} {b : List UInt8} {W : List Fr} (h : Rows i b W) (h8 : i ≤ 8) : b.length ≤ 72000 ∧ (1 ≤ i → 1 ≤ b.length) := by
  have h1 := cat_most W (400 * i) (by omega) h.each
  have h2 := h.len
  refine ⟨by rw [h.bytes]; omega, fun hi => ?_⟩
  rw [h.bytes]
  rcases nil_or_snoc W with rfl | ⟨init, l, rfl⟩
  · exact absurd rfl (h.some_ hi)
  · rw [cat_snoc, List.length_append]
    have hl := h.each l (by simp)
    by_cases hk : l.k = 0
    · rcases hl with ⟨n, rfl, q1, q2⟩ | hl
      · rw [pad_put, List.length_replicate]; omega
      · exact absurd hk hl.1
    · have := (hl.first hk).2; omega
/-- The last frame's number is turned. -/
theorem OF2.setn {w : World} {N : Nat} {tF : TypeId} {ao : Option Addr} {cap : Nat} {init : List Fr} {l : Fr} {g : Option Nat} (h : OF2 w N tF (.slice ao (init.length + 1) cap) (init ++ [l]) g) (x : Nat) :
    ∃ gw, ao = some ⟨gw, 0, none⟩ ∧ N ≤ gw ∧ (∃ cur, row? w gw = some cur) ∧ OF2 (w.setCell ⟨gw, init.length * 10 + 1, none⟩ (.int .u64 (x : Nat))) N tF (.slice ao (init.length + 1) cap) (init ++ [{ l with n := x }]) g := by
  obtain ⟨As, hl, ho, hf, hf2, hne⟩ := h
  rw [List.length_append, List.length_singleton] at hl ho hf hf2
  have hsz : ∀ q, q < As.length → (As.getD q #[]).size = 10 := fun q hq => (hf q (by omega)).size.1
  rcases ho.2 with ⟨e, h0⟩ | ⟨gw, cap', cur, e, hb, hg, hnc, hcm, hcs, htake⟩
  · omega
  injection e with e1 e2 e3
  subst e1 e3
  refine ⟨gw, rfl, hb, ⟨cur, row?_of hg⟩, ?_⟩
  have hs2 := heap_setCell_same w gw (init.length * 10 + 1) cur tF (.int .u64 (x : Nat)) hg
  have m : Mut gw w (w.setCell ⟨gw, init.length * 10 + 1, none⟩ (.int .u64 (x : Nat))) := (Mut.refl _ _).setCell _ _ _
  have gb : w.grownBy (w.setCell ⟨gw, init.length * 10 + 1, none⟩ (.int .u64 (x : Nat))) (some gw) := ⟨m.os, m.tape, m.output, m.size, fun k hk hn => m.block k hk (fun e => hn (by rw [e]))⟩
  obtain ⟨Bs, Al, rfl⟩ : ∃ Bs Al, As = Bs ++ [Al] := by
    rcases List.eq_nil_or_concat As with h | ⟨Bs, Al, h⟩
    · rw [h] at hl; simp at hl
    · exact ⟨Bs, Al, by rw [h, List.concat_eq_append]⟩
  have hBl : Bs.length = init.length := by simpa using hl
  have gB : ∀ k C, k < init.length → (Bs ++ [C]).getD k #[] = Bs.getD k #[] := fun k C hk => by simp [List.getD, List.getElem?_append_left (show k < Bs.length by omega)]
  have gI : ∀ k y, k < init.length → (init ++ [y]).getD k fr0 = init.getD k fr0 := fun k y hk => by simp [List.getD, List.getElem?_append_left hk]
  have gBL : ∀ C, (Bs ++ [C]).getD init.length #[] = C := fun C => by rw [← hBl]; simp [List.getD]
  have gIL : ∀ y, (init ++ [y]).getD init.length fr0 = y := fun y => by simp [List.getD]
  have turn : ∀ (g' : Option Nat), (∀ k, k < init.length + 1 → FvA w g' ((Bs ++ [Al]).getD k #[]) ((init ++ [l]).getD k fr0)) → ∀ k, k < init.length + 1 → FvA (w.setCell ⟨gw, init.length * 10 + 1, none⟩ (.int .u64 (x : Nat))) g' ((Bs ++ [Al.setIfInBounds 1 (.int .u64 (x : Nat))]).getD k #[]) ((init ++ [{ l with n := x }]).getD k fr0) := by
    intro g' hf' k hk
    by_cases hkl : k < init.length
    · rw [gB k _ hkl, gI k _ hkl]
      have q1 := hf k hk
      have q2 := hf' k hk
      rw [gB k _ hkl, gI k _ hkl] at q1 q2
      exact q1.other q2 gb
    · obtain rfl : k = init.length := by omega
      have q1 := hf init.length hk
      have q2 := hf' init.length hk
      rw [gBL, gIL] at q1 q2 ⊢
      obtain ⟨vr, vd, vc, vt, rfl, hh, pp⟩ := q1.other q2 gb
      exact ⟨vr, vd, vc, vt, rfl, hh, pp⟩
  refine ⟨Bs ++ [Al.setIfInBounds 1 (.int .u64 (x : Nat))], by simp [hBl], ?_, ?_, ?_, hne⟩
  · rw [List.length_append, List.length_singleton]
    have hAl : Al.size = 10 := by have := hsz init.length (by omega); rw [gBL] at this; exact this
    have hBf : (Bs.flatMap Array.toList).length = init.length * 10 := by
      have : ∀ (Cs : List (Array Value)), (∀ q, q < Cs.length → (Cs.getD q #[]).size = 10) → (Cs.flatMap Array.toList).length = Cs.length * 10 := by
        intro Cs
        induction Cs with
        | nil => intro _; rfl
        | cons C Cs ih =>
          intro h
          have h0 := h 0 (by simp)
          have h1 := ih (fun q hq => h (q + 1) (by simpa using hq))
          rw [List.flatMap_cons, List.length_append, h1, List.length_cons]
          simp only [List.getD_cons_zero] at h0
          rw [Array.length_toList, h0]
          omega
      rw [← hBl]
      exact this Bs (fun q hq => by have := hsz q (by simp; omega); rwa [gB q _ (by omega)] at this)
    have hx : (Bs ++ [Al.setIfInBounds 1 (.int .u64 (x : Nat))]).flatMap Array.toList = ((Bs ++ [Al]).flatMap Array.toList).set (init.length * 10 + 1) (.int .u64 (x : Nat)) := by
      rw [List.flatMap_append, List.flatMap_append, List.set_append_right _ _ (by omega), hBf]
      simp
    refine ⟨?_, .inr ⟨gw, cap, _, rfl, hb, hs2, hnc, hcm, by simp [hcs], ?_⟩⟩
    · rw [hx, List.length_set]; exact ho.1
    · rw [hx, ← htake, Array.toList_setIfInBounds, List.take_set]
  · rw [List.length_append, List.length_singleton]
    exact turn _ hf
  · rw [List.length_append, List.length_singleton]
    exact turn g hf2
end Frm
end
