/- FrmGt; FrmO1; PckC; PckF; HelD; HelE; HelF; HelG; HelH; HelI; HelJ; HelK; HelL. -/
import Derived.Test.YthjbmggpleliaaaGreatDoorMhb44
import Derived.Test.YthjbmggpleliaaaGreatDoorMhb46
import Derived.Test.YthjbmggpleliaaaGreatDoorMhb34
import Derived.Test.YthjbmggpleliaaaGreatDoorMhb40
import Derived.Test.YthjbmggpleliaaaGreatDoorMhbLibZ
import Derived.Test.YthjbmggpleliaaaGreatDoorMhb4
import Derived.Test.YthjbmggpleliaaaGreatDoorMhb32
import Derived.Test.YthjbmggpleliaaaGreatDoorMhb30
import Derived.Test.YthjbmggpleliaaaGreatDoorMhb43
import Derived.WalkMore
import Derived.ScopeJumps
import Derived.Lib.Small
section


end
section
namespace Frm
open Go Go.RowKit Go.Rw Hdr
theorem nil_or_snoc (W : List Fr) : W = [] ∨ ∃ init l, W = init ++ [l] := by
 rcases List.eq_nil_or_concat W with h | ⟨init, l, h⟩
 ·exact .inl h
 ·exact .inr ⟨init, l, by rw [h, List.concat_eq_append]⟩
def alt : List Fr → Prop
 | [] => True
 | [_] => True
 | f :: g :: r => ¬ (f.k = 0 ∧ g.k = 0) ∧ alt (g :: r)
theorem alt_snoc : ∀ (W : List Fr) (f : Fr), alt W → (∀ init l, W = init ++ [l] → ¬ (l.k = 0 ∧ f.k = 0)) → alt (W ++ [f]) := by
 intro W
 induction W with
 | nil => intro f _ _; trivial
 | cons a W ih =>
  intro f h hl
  cases W with
  | nil => exact ⟨hl [] a rfl, trivial⟩
  | cons b r =>
   refine ⟨h.1, ?_⟩
   exact ih f h.2 (fun init l e => hl (a :: init) l (by rw [e]; rfl))
theorem alt_last : ∀ (W : List Fr) (l l' : Fr), alt (W ++ [l]) → (l'.k = 0 → l.k = 0) → alt (W ++ [l']) := by
 intro W
 induction W with
 | nil => intro l l' _ _; trivial
 | cons a W ih =>
  intro l l' h hk
  cases W with
  | nil => exact ⟨fun e => h.1 ⟨e.1, hk e.2⟩, trivial⟩
  | cons b r => exact ⟨h.1, ih l l' h.2 hk⟩
def PW (m : Nat) (f : Fr) : Prop := (∃ n, f = padF n ∧ 1 ≤ n ∧ n ≤ m) ∨ (f.k ≠ 0 ∧ f.may = true ∧ f.fits ∧ f.put.length ≤ 9000)
theorem PW.mono {m m' : Nat} {f : Fr} (h : PW m f) (hm : m ≤ m') : PW m' f := by
 rcases h with ⟨n, e, h1, h2⟩ | h
 ·exact .inl ⟨n, e, h1, by omega⟩
 ·exact .inr h
theorem PW.fits {m : Nat} {f : Fr} (h : PW m f) : f.fits := by
 rcases h with ⟨n, rfl, h1, h2⟩ | h
 ·exact ⟨by simp [padF, fr0], by simp [padF, fr0], by simp [padF, fr0], by simp [padF, fr0]⟩
 ·exact h.2.2.1
theorem pad_put (n : Nat) : (padF n).put = List.replicate n 0 := by
 unfold Fr.put padF
 rw [if_pos (by rfl)]
theorem PW.len {m : Nat} {f : Fr} (h : PW m f) (hm : m ≤ 9000) : f.put.length ≤ 9000 := by
 rcases h with ⟨n, rfl, h1, h2⟩ | h
 ·rw [pad_put, List.length_replicate]; omega
 ·exact h.2.2.2
theorem PW.first {m : Nat} {f : Fr} (h : PW m f) (hk : f.k ≠ 0) : nth f.put 0 ≠ 0 ∧ 1 ≤ f.put.length := by
 rcases h with ⟨n, rfl, h1, h2⟩ | h
 ·exact absurd rfl hk
 ·exact put_first h.2.1 hk
def mrg (W : List Fr) (f : Fr) : List Fr :=
 match W.getLast? with
 | some l => if f.k = 0 ∧ l.k = 0 then W.dropLast ++ [{ l with n := l.n + f.n }] else W ++ [f]
 | none => W ++ [f]
theorem mrg_nil (f : Fr) : mrg [] f = [f] := rfl
theorem mrg_one {init : List Fr} {l f : Fr} (h : f.k = 0 ∧ l.k = 0) : mrg (init ++ [l]) f = init ++ [{ l with n := l.n + f.n }] := by
 unfold mrg
 rw [List.getLast?_concat]
 simp only []
 rw [if_pos h, List.dropLast_concat]
theorem mrg_more {init : List Fr} {l f : Fr} (h : ¬ (f.k = 0 ∧ l.k = 0)) : mrg (init ++ [l]) f = init ++ [l] ++ [f] := by
 unfold mrg
 rw [List.getLast?_concat]
 simp only []
 rw [if_neg h]
structure Rows (i : Nat) (b : List UInt8) (W : List Fr) : Prop where
 bytes : b = cat W
 alt_ : alt W
 each : ∀ f, f ∈ W → PW (400 * i) f
 len : W.length ≤ i
 some_ : 1 ≤ i → W ≠ []
theorem Rows.nil : Rows 0 [] [] := ⟨rfl, trivial, fun f h => by simp at h, by simp, fun h => by omega⟩
theorem Rows.step {i : Nat} {b : List UInt8} {W : List Fr} {f : Fr} (h : Rows i b W) (hf : PW 400 f) : Rows (i + 1) (b ++ f.put) (mrg W f) := by
 have hn : ∀ W', (∀ g, g ∈ W' → PW (400 * i) g) → ∀ g, g ∈ W' ++ [f] → PW (400 * (i + 1)) g := by
  intro W' hW g hg
  rcases List.mem_append.1 hg with h1 | h1
  ·exact (hW g h1).mono (by omega)
  ·rw [List.mem_singleton] at h1
   rw [h1]
   exact hf.mono (by omega)
 rcases nil_or_snoc W with rfl | ⟨init, l, rfl⟩
 ·rw [mrg_nil]
  exact ⟨by rw [h.bytes]; simp [cat], trivial, hn [] (fun g hg => by simp at hg), by simp, fun _ => by simp⟩
 ·by_cases hk : f.k = 0 ∧ l.k = 0
  ·rw [mrg_one hk]
   have hl := h.each l (by simp)
   rcases hl with ⟨n, rfl, h1, h2⟩ | hl
   case inr => exact absurd hk.2 hl.1
   rcases hf with ⟨n', rfl, h1', h2'⟩ | hf
   case inr => exact absurd hk.1 hf.1
   refine ⟨?_, alt_last init _ _ h.alt_ (fun _ => rfl), ?_, by have := h.len; rw [List.length_append, List.length_singleton] at this ⊢; omega, fun _ => by simp⟩
   ·rw [h.bytes, cat_snoc, cat_snoc, List.append_assoc]
    congr 1
    rw [pad_put, pad_put]
    show _ = (padF (n + n')).put
    rw [pad_put, List.replicate_append_replicate]
   ·intro g hg
    rcases List.mem_append.1 hg with h3 | h3
    ·exact (h.each g (by simp [h3])).mono (by omega)
    ·rw [List.mem_singleton] at h3
     rw [h3]
     exact .inl ⟨n + n', rfl, by omega, by omega⟩
  ·rw [mrg_more hk]
   refine ⟨by rw [h.bytes, cat_snoc (init ++ [l]) f], alt_snoc _ f h.alt_ (fun init' l' e => ?_), hn _ h.each, by have := h.len; simp at this ⊢; omega, fun _ => by simp⟩
   have e2 := List.append_inj_right' e rfl
   rw [List.singleton_inj] at e2
   rw [← e2]
   exact fun x => hk ⟨x.2, x.1⟩
theorem cat_most : ∀ (W : List Fr) (m : Nat), m ≤ 9000 → (∀ f, f ∈ W → PW m f) → (cat W).length ≤ 9000 * W.length := by
 intro W m hm
 induction W with
 | nil => intro _; simp [cat]
 | cons f W ih =>
  intro h
  have h1 := (h f List.mem_cons_self).len hm
  have h2 := ih (fun g hg => h g (List.mem_cons_of_mem _ hg))
  have e : cat (f :: W) = f.put ++ cat W := by simp [cat]
  rw [e, List.length_append, List.length_cons]
  omega
theorem Rows.most {i : Nat} {b : List UInt8} {W : List Fr} (h : Rows i b W) (h8 : i ≤ 8) : b.length ≤ 72000 ∧ (1 ≤ i → 1 ≤ b.length) := by
 have h1 := cat_most W (400 * i) (by omega) h.each
 have h2 := h.len
 refine ⟨by rw [h.bytes]; omega, fun hi => ?_⟩
 rw [h.bytes]
 rcases nil_or_snoc W with rfl | ⟨init, l, rfl⟩
 ·exact absurd rfl (h.some_ hi)
 ·rw [cat_snoc, List.length_append]
  have hl := h.each l (by simp)
  by_cases hk : l.k = 0
  ·rcases hl with ⟨n, rfl, q1, q2⟩ | hl
   ·rw [pad_put, List.length_replicate]; omega
   ·exact absurd hk hl.1
  ·have := (hl.first hk).2; omega
end Frm

end
section
namespace Frm
open Go Go.RowKit Go.Rw Hdr
def PN (f : Fr) : Prop := f.may = true ∧ f.k ≠ 0 ∧ f.fits ∧ f.put.length ≤ 9000
theorem PN.laid {f : Fr} (h : PN f) : f.laid = f.put := by unfold Fr.laid; rw [if_pos h.1]
theorem PN.pos {f : Fr} (h : PN f) : 1 ≤ f.put.length := (put_first h.1 h.2.1).2
end Frm
namespace Go.Proofs.YthjbmggpleliaaaGreatDoor
open Go.RowKit Go.Rw Frm Hdr
attribute [local go_sem ↓] ldFF stFF alFF
attribute [local go_sem] rldFF rstFF ralFF setRow_alloc_at setRow_alloc_past setRow_drew
end Go.Proofs.YthjbmggpleliaaaGreatDoor

end
section
namespace Frm
open Go Go.RowKit Go.Rw Hdr
theorem cat_take (fs : List Fr) (k : Nat) (h : k < fs.length) : cat (fs.take (k + 1)) = cat (fs.take k) ++ (fs.getD k fr0).put := by
 have e : fs.getD k fr0 = fs[k] := by simp [List.getD, h]
 rw [e, List.take_add_one, List.getElem?_eq_getElem h]
 unfold cat
 rw [List.flatMap_append]
 simp
theorem cat_take_le (fs : List Fr) (k : Nat) : (cat (fs.take k)).length ≤ (cat fs).length := by
 have : cat fs = cat (fs.take k) ++ cat (fs.drop k) := by
  unfold cat
  rw [← List.flatMap_append, List.take_append_drop]
 rw [this, List.length_append]; omega
end Frm
namespace Go.Proofs.YthjbmggpleliaaaGreatDoor
open Go.RowKit Go.Rw Frm Hdr
attribute [local go_sem ↓] ldFF stFF alFF
attribute [local go_sem] rldFF rstFF ralFF setRow_alloc_at setRow_alloc_past setRow_drew
set_option maxRecDepth 100000 in
set_option maxHeartbeats 4000000 in
theorem fill_any (fs : List Fr) (room : Nat) (hl : fs.length ≤ 1000) (hroom : room ≤ 16384) (hfit : (cat fs).length ≤ room) (hp : ∀ f, f ∈ fs → PN f) (v : Value) (w : World) (hs : Fsl w v fs) :
  Calls Tryz.prog 100 #[v, .int .i64 (room : Nat)] w fun e w' => ∃ v', e = .returned (.tuple #[v', .int .i64 0]) ∧ w'.ownsRow w.heap.size 5 1 v' (cat fs ++ List.replicate (room - (cat fs).length) 0).length ((cat fs ++ List.replicate (room - (cat fs).length) 0).map bv) ∧ Below w.heap.size w w' := by
 obtain ⟨i0, hi, hz0, hz1, hz2⟩ := info_parts info8
 obtain ⟨ao, cap, rfl, hc⟩ := id hs
 have HC := Lib.hid hc
 have HP := Lib.hid hp
 have HL := Lib.hid (And.intro hl (And.intro hroom hfit))
 clear hs hc hp hl hroom hfit
 go_enter Tryz.func100, Tryz.ntmps100
 go_wp2_with fail
 go_loopw [6, 11] (fun v6 v11 wr => ∃ (k : Nat), k ≤ fs.length ∧ v11 = .int .i64 (k : Nat) ∧ wr.ownsRow w.heap.size 5 1 v6 (cat (fs.take k)).length ((cat (fs.take k)).map bv) ∧ Below w.heap.size w wr) (fun _ v11 _ => fs.length - (intOf v11).toNat)
 case atStart => exact ⟨0, by omega, rfl, World.ownsRow_nil _ _ _ _, Below.refl _ _⟩
 case round =>
  obtain ⟨k, hk, rfl, ho, hb⟩ := hrel
  have HO := Lib.hid ho
  have BW := Lib.hid hb
  have hcl := cat_take_le fs k
  obtain ⟨L, hL⟩ : ∃ L, cat (fs.take k) = L := ⟨_, rfl⟩
  rw [hL] at ho hcl
  obtain ⟨a6, x6, rfl, -, -, -⟩ := id (Own.sl ho)
  have HO := Lib.hid ho
  by_cases hlt : k < fs.length
  case neg =>
   have p2 : decide (k < fs.length) = false := decide_eq_false hlt
   rw [List.take_of_length_le (by omega)] at hL
   have HCF := Lib.hid hL
   have hfit := HL.out.2.2
   rw [hL] at hfit
   have hroom := HL.out.2.1
   have p3 : decide (room < L.length) = false := decide_eq_false (by omega)
   have p3' : decide ((room : Int) < (L.length : Int)) = false := decide_eq_false (by omega)
   have p4 : decide ((16384 : Int) < (room : Int)) = false := decide_eq_false (by omega)
   have wm : wrap64 ((room : Int) - (L.length : Int)) = ((room - L.length : Nat) : Int) := (IntWalk.wrap64_in _ (by omega)).trans (by omega)
   obtain ⟨m, hm⟩ : ∃ m, room - L.length = m := ⟨_, rfl⟩
   rw [hm] at wm
   have HM := Lib.hid (And.intro hm (And.intro hfit hroom))
   clear ho hb hL hlt hk hfit hroom hm hcl
   go_wp2_with (at_builtin; refine Classical.byContradiction ?_)
   intro hh; apply hh; clear hh
   refine app_zeros rfl _ _ 22 3 rfl w.heap.size 5 i0 Tryz.underlying22 Tryz.underlying3 hi hz0 hz1 hz2 (.slice a6 L.length x6) L rfl HO.out m (congrArg (Value.int .i64) wm) (by have := HM.out; omega) (by have := HM.out; omega) BW.out.size ?_
   intro v3 w3 o3 g3
   have O3 := Lib.hid o3
   have B3 := Lib.hid (BW.out.grown g3 BW.out.size (fun j hj => (HO.out.lt j hj).1))
   clear o3 g3 wm p3 p3' p4
   go_wp2_with fail
   go_ret2
   refine ⟨_, rfl, ?_, B3.out⟩
   rw [HCF.out, HM.out.1]
   exact O3.out
  have p2 : decide (k < fs.length) = true := decide_eq_true hlt
  obtain ⟨b, off, rfl, hcell⟩ := HC.out (by omega)
  obtain ⟨A, hA, fv, hcA⟩ := hcell k hlt
  have hct := cat_take fs k hlt
  obtain ⟨f, hf⟩ : ∃ f, fs.getD k fr0 = f := ⟨_, rfl⟩
  have hg : fs.getD k fr0 = fs[k] := by simp [List.getD, hlt]
  have hpn : PN f := HP.out f (by rw [← hf, hg]; exact List.getElem_mem hlt)
  rw [hf] at fv hct
  rw [hL] at hct
  have hA1 : allOne A = true := by exact (fv.fva none (fun k e => by cases e)).size.2
  have la := load_ten AgFF wr b (off + k * 10) A hA (tenb hcA hA hb)
  have rx := row?_alloc_at wr A 159 wr.heap.size rfl
  have lx := rldFF (wr.alloc (.cells A 159)) wr.heap.size (by rw [rx, Option.map_some, hA])
  rw [rx, Option.getD_some] at lx
  have c0 : (wr.alloc (.cells A 159)).cell? ⟨wr.heap.size, 0, none⟩ = some (.int .i64 f.k) := (row?_cell rx 0).trans (by obtain ⟨_, _, _, _, e, _⟩ := fv; injection e with e; rw [e]; rfl)
  have bA := (Below.refl wr.heap.size wr).alloc (Nat.le_refl _) (.cells A 159)
  have FV := Lib.hid ((fv.below hb).below bA)
  have HO1 := Lib.hid (own_below ho bA)
  have B1 := Lib.hid (hb.trans (bA.mono hb.size))
  have HPN := Lib.hid hpn
  have HLT := Lib.hid hlt
  have HCT := Lib.hid hct
  have HCL := Lib.hid hcl
  have RX := Lib.hid rx
  have qk : (f.k == 0) = false := by simpa using hpn.2.1
  have hk1 : wrap64 ((k : Int) + 1) = (k : Int) + 1 := IntWalk.wrap64_in _ (by have := HL.out; omega)
  have HK1 := Lib.hid hk1
  clear ho hb fv hcA hf hg hpn hct hcl bA rx HO BW hcell hL hk1 hk
  go_wp2_with fail
  have hc := fmay_fr f HPN.out.2.2.1 (.agg A) _ FV.out
  rw [HPN.out.1] at hc
  refine hc.mono ?_
  rintro e w2 ⟨rfl, h2⟩
  have FV2 := Lib.hid (FV.out.below h2)
  have HO2 := Lib.hid (own_below HO1.out h2)
  have B2 := Lib.hid (B1.out.trans (h2.mono B1.out.size))
  have rx2 : row? w2 wr.heap.size = some A := by rw [row?_below h2 (row?_lt RX.out)]; exact RX.out
  have lx2 := rldFF w2 wr.heap.size (by rw [rx2, Option.map_some, hA])
  rw [rx2, Option.getD_some] at lx2
  clear hc h2 FV HO1 B1 la lx c0 rx2
  go_wp2_with fail
  have hc := fput_fr f HPN.out.2.2.1 (.agg A) w2 FV2.out
  rw [HPN.out.laid] at hc
  refine hc.mono ?_
  rintro e w3 ⟨v3, rfl, o3, h3⟩
  have HO3 := Lib.hid (own_below HO2.out h3)
  have B3 := Lib.hid (B2.out.trans (h3.mono B2.out.size))
  have S3 := Lib.hid (Own.sl o3)
  clear hc o3 h3 HO2 B2 lx2 FV2
  go_wp2_with (at_builtin; refine Classical.byContradiction ?_)
  intro hh; apply hh; clear hh
  refine app_sl rfl _ _ 22 rfl w.heap.size 5 i0 Tryz.underlying22 hi hz0 hz1 hz2 (.slice a6 L.length x6) L rfl HO3.out v3 f.put rfl S3.out (by have := HCL.out; have := HL.out; have := HPN.out.2.2.2; omega) B3.out.size ?_
  intro v4 w4 o4 g4
  rw [← HCT.out] at o4
  have B4 := Lib.hid (B3.out.grown g4 B3.out.size (fun j hj => (HO3.out.lt j hj).1))
  have O4 := Lib.hid o4
  clear o4 g4 HO3 B3 S3
  go_wp2_with fail
  go_roundw
  case rel => exact ⟨k + 1, HLT.out, by first | exact congrArg (Value.int .i64) HK1.out | rfl, O4.out, B4.out⟩
  case measure => first | exact meas HLT.out | (rw [HK1.out]; exact meas HLT.out)
end Go.Proofs.YthjbmggpleliaaaGreatDoor

end
section
namespace Vlt
open Go Go.Rw Aes Hdr Gcm
theorem headB_rest (lg : Bool) (kind : Int) (ver : Nat) (dst src tok : List UInt8) (sp ph : Bool) (num nl r r' : Nat) : (headB lg kind ver dst src tok sp ph num nl r).length = (headB lg kind ver dst src tok sp ph num nl r').length := by
 unfold headB
 split
 ·simp [longB, vin_length]
 ·rfl
end Vlt
namespace Go.Proofs.YthjbmggpleliaaaGreatDoor
open Go Go.RowKit Go.Rw Aes Hdr Vlt Hst Frm
theorem ks_split (l : List UInt8) (h : l.length = 44) : ∃ key iv msk, key.length = 16 ∧ iv.length = 12 ∧ msk.length = 16 ∧ l = ksB key iv msk :=
 ⟨l.take 16, (l.drop 16).take 12, l.drop 28, by simp [h], by simp [h], by simp [h], by
  unfold ksB
  rw [show l.drop 28 = (l.drop 16).drop 12 by rw [List.drop_drop], List.append_assoc, List.take_append_drop, List.take_append_drop]⟩
theorem room_any (lg : Bool) (kind : Int) (ver : Nat) (dst src tok : List UInt8) (sp ph : Bool) (num nl : Nat) (hm : mayN lg kind ver dst.length src.length tok.length sp ph num nl = true) (hver : ver < 4294967296) (m : Nat) (hh : (headB lg kind ver dst src tok sp ph num nl 16).length + m = 240) (vd vs vt : Value) (w : World) (h1 : Sl w vd dst) (h2 : Sl w vs src) (h3 : Sl w vt tok) :
  Calls Tryz.prog 65 #[.agg (hvA lg kind ver vd vs vt sp ph num nl)] w fun e w' => e = .returned (.int .i64 (m : Nat)) ∧ Below w.heap.size w w' :=
 room_ok (hvA lg kind ver vd vs vt sp ph num nl) (hvA_pt _ _ _ _ _ _ _ _ _ _) (headB lg kind ver dst src tok sp ph num nl 16).length (by omega) m (by omega) w (fun W hW => (put_u lg kind ver dst src tok sp ph num nl 16 hm hver (by omega) vd vs vt W (h1.below hW) (h2.below hW) (h3.below hW)).mono (by
  rintro e w' ⟨v, rfl, hv, hb⟩
  exact ⟨v, _, rfl, hv, rfl, hb⟩))
attribute [local go_sem ↓] ldH ldK
set_option maxRecDepth 100000 in
set_option maxHeartbeats 2000000 in
theorem sealed_any (kk : List UInt8) (hkk : kk.length = 44) (lg : Bool) (kind : Int) (ver : Nat) (dst src tok : List UInt8) (sp ph : Bool) (num nl : Nat) (hm : mayN lg kind ver dst.length src.length tok.length sp ph num nl = true) (hver : ver < 4294967296) (m : Nat) (hh : (headB lg kind ver dst src tok sp ph num nl 16).length + m = 240)
  (fs : List Fr) (hl : fs.length ≤ 1000) (hfit : (cat fs).length ≤ m) (hp : ∀ f, f ∈ fs → PN f) (hm4 : 4 ≤ m) (vd vs vt vf : Value) (w : World) (h1 : Sl w vd dst) (h2 : Sl w vs src) (h3 : Sl w vt tok) (hf : Fsl w vf fs) :
  Calls Tryz.prog 71 #[.agg (bvs kk), .agg (hvA lg kind ver vd vs vt sp ph num nl), vf] w fun e w' => (∃ v l, e = .returned v ∧ l.length = 256 ∧ OwnB w' w.heap.size v l) ∧ Below w.heap.size w w' := by
 have hnum : num ≤ 4611686018427387903 := (may_facts hm).2.2.1
 obtain ⟨fo, fc, rfl, -⟩ := id hf
 have al := bel2 w (.cells (bvs kk) 69) (.cells (hvA lg kind ver vd vs vt sp ph num nl) 150)
 have hz1 : (hvA lg kind ver vd vs vt sp ph num nl).size = 10 := hvA_pt _ _ _ _ _ _ _ _ _ _
 have rK : row? ((w.alloc (.cells (bvs kk) 69)).alloc (.cells (hvA lg kind ver vd vs vt sp ph num nl) 150)) w.heap.size = some (bvs kk) :=
  Rg.stable_row ((Below.refl _ _).alloc (Nat.le_refl _) _) (row?_alloc_at w _ _ _ rfl)
 have rH : row? ((w.alloc (.cells (bvs kk) 69)).alloc (.cells (hvA lg kind ver vd vs vt sp ph num nl) 150)) (w.heap.size + 1) = some (hvA lg kind ver vd vs vt sp ph num nl) := row?_alloc_at _ _ _ _ (by simp)
 have HRM := fun W a b c => room_any lg kind ver dst src tok sp ph num nl hm hver m hh vd vs vt W a b c
 have HN := Lib.hid (And.intro hkk (And.intro hm (And.intro hver (And.intro hh (And.intro hl (And.intro hfit (And.intro hp (And.intro hm4 hnum))))))))
 have HS := Lib.hid (And.intro h1 (And.intro h2 (And.intro h3 hf)))
 clear hkk hm hver hh hl hfit hp hm4 h1 h2 h3 hf hnum
 generalize hA0 : hvA lg kind ver vd vs vt sp ph num nl = A0 at *
 have HA0 := Lib.hid hA0
 go_enter Tryz.func71, Tryz.ntmps71
 go_upto_region 1 with (fail)
 have B1 := Lib.hid al
 generalize ((w.alloc (.cells (bvs kk) 69)).alloc (.cells A0 150)) = w1 at *
 have l1 : (loadAgg 150 (.pointer (some ⟨w.heap.size + 1, 0, none⟩))).run Tryz.prog w1 = .ok (.agg A0) w1 := by
  have := rldH w1 (w.heap.size + 1) (by rw [rH, Option.map_some, hz1]); rw [rH] at this; exact this
 have RR := Lib.hid (And.intro rK (And.intro rH hz1))
 clear al rK rH hz1 hA0
 go_wp2_with fail
 refine (HRM w1 (HS.out.1.below B1.out) (HS.out.2.1.below B1.out) (HS.out.2.2.1.below B1.out)).mono ?_
 rintro e w2 ⟨rfl, b2⟩
 have B2 := Lib.hid (B1.out.trans (b2.mono B1.out.size))
 have RR2 := Lib.hid (And.intro (Rg.stable_row b2 RR.out.1) (And.intro (Rg.stable_row b2 RR.out.2.1) RR.out.2.2))
 clear b2 l1 HRM
 go_wp2_with fail
 refine (fill_any fs m HN.out.2.2.2.2.1 (by have := HN.out; omega) HN.out.2.2.2.2.2.1 HN.out.2.2.2.2.2.2.1 _ w2 (HS.out.2.2.2.below B2.out)).mono ?_
 rintro e w3 ⟨v3, rfl, o3, b3⟩
 have htl : (cat fs ++ List.replicate (m - (cat fs).length) 0).length = m := by have := HN.out.2.2.2.2.2.1; rw [List.length_append, List.length_replicate]; omega
 generalize cat fs ++ List.replicate (m - (cat fs).length) 0 = text at *
 obtain ⟨xo, xc, rfl, -⟩ := id (Own.sl o3)
 have B3 := Lib.hid (B2.out.trans (b3.mono B2.out.size))
 have RR3 := Lib.hid (And.intro (Rg.stable_row b3 RR2.out.1) (And.intro (Rg.stable_row b3 RR2.out.2.1) RR2.out.2.2))
 have l1 : (loadAgg 150 (.pointer (some ⟨w.heap.size + 1, 0, none⟩))).run Tryz.prog w3 = .ok (.agg A0) w3 := by
  have := rldH w3 (w.heap.size + 1) (by rw [RR3.out.2.1, Option.map_some, RR3.out.2.2]); rw [RR3.out.2.1] at this; exact this
 have l2 : (loadAgg 69 (.pointer (some ⟨w.heap.size, 0, none⟩))).run Tryz.prog w3 = .ok (.agg (bvs kk)) w3 := rldK w3 _ kk RR3.out.1 HN.out.1
 have O3 := Lib.hid (And.intro o3 htl)
 clear o3 b3 htl
 go_wp2_with fail
 obtain ⟨key, iv, msk, hk, hi, hmk, hks⟩ := ks_split kk HN.out.1
 have hm := HN.out.2.1
 have hsr := sealR_ok (key := key) (iv := iv) (msk := msk) (u := UInt64.ofNat num) (text := text) (n := nl) (lg := lg) (kind := kind) (ver := ver) (dst := dst) (src := src) (tok := tok) (sp := sp) (ph := ph) (by rw [n64_ofNat _ (by have := HN.out; omega)]; exact hm) (by have := HN.out; have := O3.out.2; omega) (by have := HN.out; have := O3.out.2; omega)
 have hv := vseal_any key iv msk hk hi hmk lg kind ver dst src tok sp ph (UInt64.ofNat num) nl text HN.out.2.2.1 (by have := HN.out; have := O3.out.2; omega) vd vs vt _ w3 (HS.out.1.below B3.out) (HS.out.2.1.below B3.out) (HS.out.2.2.1.below B3.out) (Own.sl O3.out.1)
 rw [hsr, n64_ofNat _ (by have := HN.out; omega), HA0.out, ← hks] at hv
 have hpl := packB_length key iv msk (headB lg kind ver dst src tok sp ph num nl (text.length + 16)) text (UInt64.ofNat num) nl
 simp only [Int.toNat_natCast] at hv
 rw [headB_rest lg kind ver dst src tok sp ph num nl _ 16] at hpl
 generalize packB key iv msk (headB lg kind ver dst src tok sp ph num nl (text.length + 16)) text (UInt64.ofNat num) nl = X at *
 have h240 := HN.out.2.2.2.1
 have HX := Lib.hid (show X.length = 256 by have := O3.out.2; clear HN; omega)
 clear hsr hks hpl hk hi hmk hm h240
 refine hv.mono ?_
 rintro e w4 ⟨v4, rfl, o4, b4⟩
 have H4 := Lib.hid (And.intro (own_lower o4 B3.out.size) (B3.out.trans (b4.mono B3.out.size)))
 clear o4 b4 hv l1 l2
 go_wp2_with fail
 go_ret
 exact ⟨⟨v4, X, rfl, HX.out, H4.out.1⟩, H4.out.2⟩
end Go.Proofs.YthjbmggpleliaaaGreatDoor

end
section
namespace Go.Proofs.YthjbmggpleliaaaGreatDoor
open Go Go.RowKit Go.Rw Aes Hdr Vlt Hst Frm
theorem part44 (w : World) (b o : Nat) (c : Array Value) (l : List UInt8) (h : row? w b = some c) (ho : o + 44 ≤ c.size) (he : c.extract o (o + 44) = bvs l) :
  (loadAgg 69 (.pointer (some ⟨b, o, none⟩))).run Tryz.prog w = .ok (.agg (bvs l)) w := by
 rw [part_rule AgK w b o (by rw [h]; simpa using ho) (by rw [h]; rfl), h]
 simp [he]
theorem keyx {cc : Array Value} {key : List UInt8} (hs : cc.size = 296) (h : ∀ i, i < 88 → cc[9 + i]? = (bvs key)[i]?) (hk : key.length = 88) : cc.extract 9 (9 + 44) = bvs (key.take 44) := by
 apply Array.ext_getElem?
 intro i
 rw [Array.getElem?_extract, bvs_getElem?]
 by_cases hi : i < 44
 ·rw [if_pos (by omega), h i (by omega), bvs_getElem?, if_pos (by omega), if_pos (by simp; omega)]
  congr 3
  unfold nth
  simp [hi]
 ·rw [if_neg (by omega), if_neg (by simp; omega)]
def frC6 (l : List UInt8) : Fr := ⟨6, 0, 0, [], 0, 0, false, l, [], []⟩
theorem frC6_len (l : List UInt8) (h : l.length < 16384) : (cat [frC6 l]).length ≤ 4 + l.length := by
 have h0 : vlen 0 = 1 := by simp [vlen]
 have h1 : vlen l.length ≤ 2 := by unfold vlen; split <;> (try split) <;> omega
 simp [cat, Fr.put, frC6, vP_length, h0]
 omega
theorem frC6_PN (l : List UInt8) (h : l.length ≤ 1000) : ∀ f, f ∈ [frC6 l] → PN f := by
 intro f hf
 obtain rfl := List.mem_singleton.1 hf
 have hl := frC6_len l (by omega)
 have hc : cat [frC6 l] = (frC6 l).put := by simp [cat]
 rw [hc] at hl
 refine ⟨?_, by simp [frC6], ⟨by simp [frC6], by simp [frC6]; omega, by simp [frC6], by simp [frC6]⟩, by omega⟩
 simp [Fr.may, frC6, mayB, plainB]; omega
theorem CI.next {w w' : World} {N c F Q g bg b1 : Nat} {cc : Array Value} {D RN IL key : List UInt8} {last : Int} (h : CI w N c F Q g cc D RN IL key last bg) (hr : RT w' c 86 (cc.setIfInBounds 276 (.int .u64 (b1 : Nat)))) (m : MutS (fun k => k = c) w w') : CI w' N c F Q g (cc.setIfInBounds 276 (.int .u64 (b1 : Nat))) D RN IL key last b1 := by
 obtain ⟨v0, d0, o0⟩ := h.dst
 obtain ⟨v1, d1, o1⟩ := h.rnd
 obtain ⟨gr, v2, r2, g2, o2⟩ := h.ownr
 obtain ⟨cap, hcap⟩ := h.own
 have ne : ∀ {v : Value} {l : List UInt8}, OwnB w N v l → ∀ k, v.ownBlock = some k → ¬ k = c := fun ho k e => own_ne ho h.row (by decide) k e
 refine ⟨hr, by rw [Array.size_setIfInBounds]; exact h.size, ⟨v0, (set_ne' (by omega)).trans d0, o0.keep m (ne o0)⟩, ⟨v1, (set_ne' (by omega)).trans d1, o1.keep m (ne o1)⟩, (set_ne' (by omega)).trans h.addr, (set_ne' (by omega)).trans h.last_, (set_ne' (by omega)).trans h.met, fun j hj => (set_ne' (by omega)).trans (h.keys j hj), set_eq' (by rw [h.size]; omega), (set_ne' (by omega)).trans h.fl, RT.keep m h.flr (RT.ne h.flr h.row (by decide)), (set_ne' (by omega)).trans h.ck, RT.keep m h.ckr (RT.ne h.ckr h.row (by decide)), (set_ne' (by omega)).trans h.times, ⟨cap, (set_ne' (by omega)).trans hcap⟩, ⟨gr, v2, RT.keep m r2 (RT.ne r2 h.row (by decide)), g2, o2.keep m (ne o2)⟩, h.nc, h.nF, h.nQ, h.ng⟩
theorem buildFc (a : Option Addr) (n c : Nat) (k : Int) (w : World) : (buildP 159 #[(0, .int .i64 k), (7, .slice a n c)]).run Tryz.prog w = .ok (.agg (fvA k 0 0 (.slice none 0 0) 0 0 false (.slice a n c) (.slice none 0 0) (.slice none 0 0))) w := Go.run_build w _ _ _ (by kernel_rfl)
theorem buildHe (a a' : Option Addr) (n n' c c' : Nat) (num : Nat) (w : World) : (buildP 150 #[(0, .bool true), (2, .int .u32 1), (3, .slice a n c), (4, .slice a' n' c'), (8, .int .u64 (num : Nat)), (9, .int .i64 4)]).run Tryz.prog w = .ok (.agg (hvA true 0 1 (.slice a n c) (.slice a' n' c') (.slice none 0 0) false false num 4)) w := Go.run_build w _ _ _ (by kernel_rfl)
def bslF (ps : Array (Nat × Value)) : Sem Value := Instr.buildSlice 153 1 ps
theorem bdbs (ps : Array (Nat × Value)) : Instr.buildSlice 153 1 ps = bslF ps := rfl
theorem bs1F (k : Int) (n d : Nat) (vr : Value) (i o : Nat) (fin : Bool) (vd vc vt : Value) (w : World) : (bslF #[(0, .agg (fvA k n d vr i o fin vd vc vt))]).run Tryz.prog w = .ok (.slice (some ⟨w.heap.size, 0, none⟩) 1 1) (w.alloc (.cells (fvA k n d vr i o fin vd vc vt) 159)) := by kernel_rfl
attribute [local go_sem ↓] ldH stH alH bdH bdF ldK bdbs
attribute [local go_sem] rldH rstH ralH setRow_alloc_at setRow_alloc_past setRow_drew buildFc buildHe bs1F
set_option maxRecDepth 100000 in
set_option maxHeartbeats 4000000 in
theorem early_client (H c F Q g N bg : Nat) (hbg : bg ≤ 1000) (s : HS) (cc : Array Value) (D RN IL key : List UInt8) (last : Int) (hD : D.length = 8) (hRN : RN.length = 32) (hIL : IL.length = 8) (hkey : key.length = 88) (hro : s.role = 0) (hcl : s.closing = false) (w : World) (hr : HR w H s) (hci : CI w N c F Q g cc D RN IL key last bg) :
  Calls Tryz.prog 31 #[.pointer (some ⟨H, 0, none⟩), .pointer (some ⟨c, 0, none⟩)] w fun e w' => (∃ v l, e = .returned v ∧ l.length = 256 ∧ OwnB w' w.heap.size v l) ∧ CI w' N c F Q g (cc.setIfInBounds 276 (.int .u64 ((bg + 1 : Nat)))) D RN IL key last (bg + 1) ∧ MutS (fun k => k = c) w w' := by
 obtain ⟨vd, cd, od⟩ := hci.dst
 obtain ⟨vr, cr, orn⟩ := hci.rnd
 obtain ⟨cap, co⟩ := hci.own
 obtain ⟨gr, vi, rg, cgi, oi⟩ := hci.ownr
 obtain ⟨do_, dc, rfl, -⟩ := id od.sl
 obtain ⟨io, ic, rfl, -⟩ := id oi.sl
 have c0 : w.cell? ⟨c, 0, none⟩ = some (.slice do_ D.length dc) := (row?_cell hci.row.row 0).trans cd
 have c284 : w.cell? ⟨c, 284, none⟩ = some (.slice (some ⟨g, 0, none⟩) 1 cap) := (row?_cell hci.row.row 284).trans co
 have c276 : w.cell? ⟨c, 276, none⟩ = some (.int .u64 (bg : Nat)) := (row?_cell hci.row.row 276).trans hci.begun
 have cg : w.cell? ⟨g, 1, none⟩ = some (.slice io IL.length ic) := (row?_cell rg.row 1).trans cgi
 have c1 : w.cell? ⟨c, 1, none⟩ = some vr := (row?_cell hci.row.row 1).trans cr
 have h0 : w.cell? ⟨H, 0, none⟩ = some (.int .i64 0) := (hr.c 0).trans (by rw [HS.at0, hro]; rfl)
 have h15 : w.cell? ⟨H, 15, none⟩ = some (.bool false) := (hr.c 15).trans (congrArg (fun b => some (Value.bool b)) hcl)
 have hlt := hci.row.lt
 have HCI := Lib.hid hci
 have HRr := Lib.hid hr
 have HN := Lib.hid (And.intro hbg (And.intro hD (And.intro hRN (And.intro hIL (And.intro hkey (And.intro hro hcl))))))
 have HO := Lib.hid (And.intro od (And.intro orn oi))
 obtain ⟨b1, hb1⟩ : ∃ b1 : Nat, bg + 1 = b1 := ⟨_, rfl⟩
 have eU : IntKind.u64.wrap ((bg : Int) + 1) = (b1 : Nat) := by simp [IntKind.wrap, IntKind.bits, IntKind.signed]; omega
 rw [hb1]
 have HB1 := Lib.hid hb1
 clear hb1
 have HC := Lib.hid (And.intro c1 (And.intro c284 (And.intro cg (And.intro c276 (And.intro h0 h15)))))
 clear hci hr hbg hD hRN hIL hkey hro hcl od orn oi c1 h15 rg cgi co cr cd
 go_enter Tryz.func31, Tryz.ntmps31
 go_wp2_with fail
 refine Rg.wp_region_plan (Rg.row [(0, 3), (1, 3), (2, 3), (3, 0), (4, 3), (5, 3), (6, 3), (7, 0), (8, 3), (9, 3), (10, 0), (11, 3), (12, 3), (13, 3), (14, 0), (15, 3), (16, 1)] [17]) [17] (by kernel_rfl) (by kernel_rfl) ?_
 simp only [Rg.row, Rg.PT.map, List.map_cons, List.map_nil, List.getD_cons_zero, List.getD_cons_succ]
 go_wp2_with (first
  |(with_reducible refine Rg.plan_pure ?_ ?_ ?_); kernel_rfl; kernel_rfl; intro _ _|(with_reducible refine Rg.plan_take ?_ ?_ ?_); kernel_rfl; kernel_rfl; intro _ _|(with_reducible refine Rg.plan_keep ?_ ?_); kernel_rfl; intro K hK|refine hK _ _ (Rg.Keep.refl _) ?_; clear hK|refine hK _ _ (Rg.Keep.of_below (by assumption)) ?_; clear hK|(with_reducible refine Rg.plan_skip ?_ ?_); kernel_rfl|(with_reducible refine Rg.plan_done ?_)|(with_reducible refine Rg.calm_normal ?_))
 have al : Below w.drew.heap.size w.drew (w.drew.alloc (.cells (hvA false 0 0 (.slice none 0 0) (.slice none 0 0) (.slice none 0 0) false false 0 0) 150)) := (Below.refl _ _).alloc (Nat.le_refl _) _
 refine hK _ _ (Rg.Keep.of_below al) ?_
 clear hK al
 go_wp2_with (first
  |(with_reducible refine Rg.plan_pure ?_ ?_ ?_); kernel_rfl; kernel_rfl; intro _ _|(with_reducible refine Rg.plan_take ?_ ?_ ?_); kernel_rfl; kernel_rfl; intro _ _|(with_reducible refine Rg.plan_keep ?_ ?_); kernel_rfl; intro K hK|refine hK _ _ (Rg.Keep.refl _) ?_; clear hK|refine hK _ _ (Rg.Keep.of_below (by assumption)) ?_; clear hK|(with_reducible refine Rg.plan_skip ?_ ?_); kernel_rfl|(with_reducible refine Rg.plan_done ?_)|(with_reducible refine Rg.calm_normal ?_))
 have al : Below w.heap.size w (w.alloc (.cells (hvA true 0 1 (.slice do_ D.length dc) (.slice io IL.length ic) (.slice none 0 0) false false bg 4) 150)).drew := ((Below.refl _ _).alloc (Nat.le_refl _) _).drew
 have R1 := Lib.hid (show row? (w.alloc (.cells (hvA true 0 1 (.slice do_ D.length dc) (.slice io IL.length ic) (.slice none 0 0) false false bg 4) 150)).drew w.heap.size = some (hvA true 0 1 (.slice do_ D.length dc) (.slice io IL.length ic) (.slice none 0 0) false false bg 4) from row?_alloc_at _ _ _ _ rfl)
 have B1 := Lib.hid al
 clear al
 generalize (w.alloc (.cells (hvA true 0 1 (.slice do_ D.length dc) (.slice io IL.length ic) (.slice none 0 0) false false bg 4) 150)).drew = w1 at *
 have C1 := Lib.hid (And.intro (HCI.out.row.below B1.out) (HRr.out.below B1.out))
 refine (hosthello_any H c g cap s RN IL HN.out.2.2.1 HN.out.2.2.2.1 vr (.slice io IL.length ic) w1 C1.out.2 (below_cell B1.out HC.out.1 (cell_lt HC.out.1)) (HO.out.2.1.sl.below B1.out) (below_cell B1.out HC.out.2.1 (cell_lt HC.out.2.1)) (below_cell B1.out HC.out.2.2.1 (cell_lt HC.out.2.2.1)) (HO.out.2.2.sl.below B1.out)).mono ?_
 rintro e w2 ⟨⟨vt, lt, rfl, hlt2, ot⟩, b2⟩
 obtain ⟨to_, tc, rfl, -⟩ := id ot.sl
 have B2 := Lib.hid (B1.out.trans (b2.mono B1.out.size))
 have R2 := Lib.hid (Rg.stable_row b2 R1.out)
 have OT := Lib.hid (And.intro (own_lower ot B1.out.size) hlt2)
 have h0 : w2.cell? ⟨H, 0, none⟩ = some (.int .i64 0) := below_cell B2.out HC.out.2.2.2.2.1 (cell_lt HC.out.2.2.2.2.1)
 have C2 := Lib.hid (And.intro (C1.out.1.below b2) (C1.out.2.below b2))
 have c276 : w2.cell? ⟨c, 276, none⟩ = some (.int .u64 (bg : Nat)) := (row?_cell C2.out.1.row 276).trans HCI.out.begun
 have f276 : w2.frozen? ⟨c, 276, none⟩ = false := row?_frozen C2.out.1.row 276
 clear b2 ot hlt2 c0 c284 cg
 go_upto_region 8 with (fail)
 have m23 : MutS (fun k => k = c) w2 (w2.setCell ⟨c, 276, none⟩ (.int .u64 (b1 : Nat))) := (MutS.refl (fun k => k = c) w2).setCell c 276 none _ (.inl rfl)
 have r3 : RT (w2.setCell ⟨c, 276, none⟩ (.int .u64 (b1 : Nat))) c 86 (cc.setIfInBounds 276 (.int .u64 (b1 : Nat))) := C2.out.1.set 276 _
 generalize (w2.setCell ⟨c, 276, none⟩ (.int .u64 (b1 : Nat))) = w3 at *
 have hHc : H ≠ c := RT.ne C2.out.2 C2.out.1 (by decide)
 have hr3 : HR w3 H s := C2.out.2.keep m23 hHc
 have h0' : w3.cell? ⟨H, 0, none⟩ = some (.int .i64 0) := (hr3.c 0).trans (by rw [HS.at0, HN.out.2.2.2.2.2.1]; rfl)
 have h15 : w3.cell? ⟨H, 15, none⟩ = some (.bool false) := (hr3.c 15).trans (congrArg (fun b => some (Value.bool b)) HN.out.2.2.2.2.2.2)
 have M3 := Lib.hid (((MutS.of_below B2.out : MutS (fun k => k = c) w w2)).trans m23)
 have R3 := Lib.hid (And.intro r3 (And.intro hr3 (m23.row R2.out (by omega))))
 have OT3 := Lib.hid (And.intro (OwnB.keep m23 OT.out.1 (fun k e => by have := (OT.out.1.lt k e).1; omega)) OT.out.2)
 clear m23 r3 hr3 hHc c276 f276 h0 eU
 have hltH := R3.out.2.1.lt
 go_upto_region 11 with (fail)
 have b34 : Below w3.heap.size w3 (w3.alloc (.cells (fvA 6 0 0 (.slice none 0 0) 0 0 false (.slice to_ lt.length tc) (.slice none 0 0) (.slice none 0 0)) 159)) := (Below.refl _ _).alloc (Nat.le_refl _) _
 have rF : row? (w3.alloc (.cells (fvA 6 0 0 (.slice none 0 0) 0 0 false (.slice to_ lt.length tc) (.slice none 0 0) (.slice none 0 0)) 159)) w3.heap.size = some (fvA 6 0 0 (.slice none 0 0) 0 0 false (.slice to_ lt.length tc) (.slice none 0 0) (.slice none 0 0)) := row?_alloc_at _ _ _ _ rfl
 have R4 := Lib.hid (And.intro (R3.out.1.below b34) (And.intro (R3.out.2.1.below b34) (Rg.stable_row b34 R3.out.2.2)))
 have OT4 := Lib.hid (And.intro (own_below OT3.out.1 b34) OT3.out.2)
 have M4 := Lib.hid (M3.out.below' b34)
 have RF := Lib.hid rF
 generalize (w3.alloc (.cells (fvA 6 0 0 (.slice none 0 0) 0 0 false (.slice to_ lt.length tc) (.slice none 0 0) (.slice none 0 0)) 159)) = w4 at *
 have BM := Lib.hid (HCI.out.next (R3.out.1) M3.out)
 clear h0' h15 hltH b34 rF
 generalize w3.heap.size = q at *
 have h0 : w4.cell? ⟨H, 0, none⟩ = some (.int .i64 0) := (R4.out.2.1.c 0).trans (by rw [HS.at0, HN.out.2.2.2.2.2.1]; rfl)
 have l1 : (loadAgg 69 (.pointer (some ⟨c, 9, none⟩))).run Tryz.prog w4.drew = .ok (.agg (bvs (key.take 44))) w4.drew := part44 w4.drew c 9 _ _ (show row? w4.drew c = _ from R4.out.1.row) (by have := HCI.out.size; rw [Array.size_setIfInBounds]; omega) (keyx (by rw [Array.size_setIfInBounds]; exact HCI.out.size) (fun i hi => (set_ne' (by omega)).trans (HCI.out.keys i hi)) HN.out.2.2.2.2.1)
 have l2 : (loadAgg 150 (.pointer (some ⟨w.heap.size, 0, none⟩))).run Tryz.prog w4.drew = .ok (.agg (hvA true 0 1 (.slice do_ D.length dc) (.slice io IL.length ic) (.slice none 0 0) false false bg 4)) w4.drew := by
  have := rldH w4.drew w.heap.size (by rw [show row? w4.drew w.heap.size = _ from R4.out.2.2, Option.map_some, hvA_pt]); rw [show row? w4.drew w.heap.size = _ from R4.out.2.2] at this; exact this
 refine Rg.wp_region_plan (Rg.row [(0, 3), (1, 3), (2, 3), (3, 3), (4, 0), (5, 3), (6, 3), (7, 3), (8, 0), (9, 0), (10, 3), (11, 1), (12, 3)] []) [] (by kernel_rfl) (by kernel_rfl) ?_
 simp only [Rg.row, Rg.PT.map, List.map_nil, List.getD_cons_zero, List.getD_cons_succ]
 go_wp2_with (first
  |(with_reducible refine Rg.plan_pure ?_ ?_ ?_); kernel_rfl; kernel_rfl; intro _ _|(with_reducible refine Rg.plan_take ?_ ?_ ?_); kernel_rfl; kernel_rfl; intro _ _|(with_reducible refine Rg.plan_keep ?_ ?_); kernel_rfl; intro K hK|refine hK _ _ (Rg.Keep.refl _) ?_; clear hK|refine hK _ _ (Rg.Keep.of_below (by assumption)) ?_; clear hK|(with_reducible refine Rg.plan_skip ?_ ?_); kernel_rfl|(with_reducible refine Rg.plan_done ?_)|(with_reducible refine Rg.calm_normal ?_))
 have hm : mayN true 0 1 D.length IL.length ([] : List UInt8).length false false bg 4 = true := by
  have := HN.out
  unfold mayN
  rw [if_neg (by omega), if_neg (by decide)]
  simp; omega
 have hh : (headB true 0 1 D IL [] false false bg 4 16).length + 210 = 240 := by
  have h0 : vlen 0 = 1 := by simp [vlen]
  have := HN.out
  unfold headB
  rw [if_pos rfl]
  simp [longB, longTok, be, vin_length, h0]
  omega
 have hfs : Fsl w4.drew (.slice (some ⟨q, 0, none⟩) 1 1) [frC6 lt] := ⟨_, 1, rfl, fun _ => ⟨q, 0, rfl, fun k hk => by
  obtain rfl : k = 0 := by simp at hk; exact hk
  exact ⟨_, by simp [fvA], ⟨_, _, _, _, rfl, Sr.nil _, Own.sl OT4.out.1, Sl.nil _, Sl.nil _⟩, fun j _ => by simpa [frC6] using row?_cell (show row? w4.drew q = _ from RF.out) j⟩⟩⟩
 have hsD : Sl w4.drew (.slice do_ D.length dc) D := (OwnB.keep M4.out.drew HO.out.1 (fun k e => own_ne HO.out.1 HCI.out.row (by decide) k e)).sl
 have hsI : Sl w4.drew (.slice io IL.length ic) IL := (OwnB.keep M4.out.drew HO.out.2.2 (fun k e => own_ne HO.out.2.2 HCI.out.row (by decide) k e)).sl
 refine (sealed_any (key.take 44) (by have := HN.out; simp; omega) true 0 1 D IL [] false false bg 4 hm (by omega) 210 hh [frC6 lt] (by simp) (by have := frC6_len lt (by have := OT4.out.2; omega); have := OT4.out.2; omega) (frC6_PN lt (by have := OT4.out.2; omega)) (by omega) _ _ _ _ w4.drew hsD hsI (Sl.nil _) hfs).mono ?_
 rintro e w5 ⟨⟨v5, l5, rfl, hl5, o5⟩, b5⟩
 have H5 := Lib.hid (And.intro hl5 (And.intro (own_lower o5 M4.out.size) (M4.out.drew.below' b5)))
 have R5 := Lib.hid (RT.below (show RT w4.drew c _ _ from R4.out.1) b5)
 refine hK _ _ (Rg.Keep.of_below b5) ?_
 clear hK b5 o5 hl5 hm hh hfs hsD hsI h0 l1 l2
 go_wp2_with (first
  |(with_reducible refine Rg.plan_pure ?_ ?_ ?_); kernel_rfl; kernel_rfl; intro _ _|(with_reducible refine Rg.plan_take ?_ ?_ ?_); kernel_rfl; kernel_rfl; intro _ _|(with_reducible refine Rg.plan_keep ?_ ?_); kernel_rfl; intro K hK|refine hK _ _ (Rg.Keep.refl _) ?_; clear hK|refine hK _ _ (Rg.Keep.of_below (by assumption)) ?_; clear hK|(with_reducible refine Rg.plan_skip ?_ ?_); kernel_rfl|(with_reducible refine Rg.plan_done ?_)|(with_reducible refine Rg.calm_normal ?_))
 go_ret
 exact ⟨⟨v5, l5, rfl, H5.out.1, H5.out.2.1⟩, HCI.out.next R5.out H5.out.2.2, H5.out.2.2⟩
end Go.Proofs.YthjbmggpleliaaaGreatDoor

end
section
namespace Go.Proofs.YthjbmggpleliaaaGreatDoor
open Go Go.RowKit Go.Rw Aes Hdr Vlt Hst
structure TbI (w : World) (N TB KM n : Nat) (l : List UInt8) (last : Nat) : Prop where
 row : ∃ vo, row? w TB = some (tbA vo (last : Nat) (.map (some KM))) ∧ Sl w vo l ∧ (∀ b off n cap, vo = .slice (some ⟨b, off, none⟩) n cap → 0 < n → b < N ∧ b ≠ TB)
 map : MapA w Tryz.prog 3 KM n
 lo : TB < N ∧ KM < N ∧ N ≤ w.heap.size
theorem TbI.keep {S : Nat → Prop} {w w' : World} {N TB KM n last : Nat} {l : List UInt8} (h : TbI w N TB KM n l last) (m : MutS S w w') (hS : ∀ k, k < N → ¬ S k) : TbI w' N TB KM n l last := by
 obtain ⟨vo, h1, h2, h3⟩ := h.row
 exact ⟨⟨vo, m.row h1 (hS _ h.lo.1), m.sl h2 (fun b off n cap e h0 => hS _ (h3 b off n cap e h0).1), h3⟩, m.mapA h.map (hS _ h.lo.2.1), h.lo.1, h.lo.2.1, Nat.le_trans h.lo.2.2 m.size⟩
set_option maxRecDepth 100000 in
set_option maxHeartbeats 1000000 in
theorem newtable2_any (l : List UInt8) (hl : l.length ≤ 1000000) (v : Value) (w : World) (hs : Sl w v l) :
  Calls Tryz.prog 14 #[v] w fun e w' => ∃ TB KM, e = .returned (.pointer (some ⟨TB, 0, none⟩)) ∧ w.heap.size ≤ TB ∧ w.heap.size ≤ KM ∧ TbI w' w'.heap.size TB KM 0 l 0 ∧ Below w.heap.size w w' := by
 have hmm := run_mm 101
 obtain ⟨ao, cap, rfl, -, -, -⟩ := id hs
 have HS := Lib.hid hs
 clear hs
 go_enter Tryz.func14, Tryz.ntmps14
 go_wp2_with fail
 refine (clone_any l hl _ w HS.out).mono ?_
 rintro e w1 ⟨vo, rfl, o1, b1⟩
 obtain ⟨a1, c1, rfl, -, -, -⟩ := id (Own.sl o1)
 have O1 := Lib.hid o1
 clear o1
 go_wp2_with fail
 have z1 := b1.size
 have hb2 : Below w1.heap.size w1 ((w1.alloc (.map #[] 0)).alloc (.cells #[.slice a1 l.length c1, .int .i64 0, .map (some w1.heap.size)] 103)) := bel2 w1 _ _
 have hz2 : ((w1.alloc (.map #[] 0)).alloc (.cells #[.slice a1 l.length c1, .int .i64 0, .map (some w1.heap.size)] 103)).heap.size = w1.heap.size + 2 := by simp
 have o2 := Go.Rw.own_below O1.out hb2
 go_ret
 refine ⟨w1.heap.size + 1, w1.heap.size, rfl, by omega, by omega, ⟨⟨_, row?_alloc_at _ _ _ _ (by simp), Own.sl o2, fun b off n cap e _ => ?_⟩, ?_, by rw [hz2]; omega, by rw [hz2]; omega, Nat.le_refl _⟩, b1.trans (hb2.mono z1)⟩
 ·have := (O1.out.lt b (by injection e with e1; rw [e1]; rfl)).2
  rw [hz2]; omega
 ·exact (MapA.new w1 _ _).below ((Below.refl _ _).alloc (Nat.le_refl _) _)
set_option maxRecDepth 100000 in
set_option maxHeartbeats 1000000 in
theorem keep_any (TB KM n : Nat) (hn : n ≤ 100000) (vo : Value) (last : Int) (id_ : Int) (hid : 0 ≤ id_ ∧ id_ ≤ 1000000) (l : List UInt8) (hl : l.length ≤ 10000) (v : Value) (w : World) (hr : row? w TB = some (tbA vo last (.map (some KM)))) (hm : MapA w Tryz.prog 3 KM n) (hs : Sl w v l) :
  Calls Tryz.prog 78 #[.pointer (some ⟨TB, 0, none⟩), .int .i64 id_, v] w fun e w' => e = .returned (.tuple #[]) ∧ MapA w' Tryz.prog 3 KM (n + 1) ∧ MutS (fun k => k = KM) w w' := by
 obtain ⟨ao, cap, rfl, -, -, -⟩ := id hs
 have c2 : w.cell? ⟨TB, 2, none⟩ = some (.map (some KM)) := row?_cell hr 2
 have hwf : (Lit.int .i64 id_).wf = true := WalkArith.wf_i64 (by omega)
 have HS := Lib.hid hs
 have HM := Lib.hid hm
 have HN := Lib.hid (And.intro hn (And.intro hid hl))
 clear hs hm hr hn hid hl
 go_enter Tryz.func78, Tryz.ntmps78
 refine Rg.wp_region_plan (Rg.row [(0, 3), (1, 3), (2, 3), (3, 0), (4, 3), (5, 3), (6, 1)] [7]) [7] (by kernel_rfl) (by kernel_rfl) ?_
 simp only [Rg.row, Rg.PT.map, List.map_cons, List.map_nil, List.getD_cons_zero, List.getD_cons_succ]
 go_wp2_with (first
  |(with_reducible refine Rg.plan_pure ?_ ?_ ?_); kernel_rfl; kernel_rfl; intro _ _|(with_reducible refine Rg.plan_take ?_ ?_ ?_); kernel_rfl; kernel_rfl; intro _ _|(with_reducible refine Rg.plan_keep ?_ ?_); kernel_rfl; intro K hK|refine hK _ _ (Rg.Keep.refl _) ?_; clear hK|refine hK _ _ (Rg.Keep.of_below (by assumption)) ?_; clear hK|(with_reducible refine Rg.plan_skip ?_ ?_); kernel_rfl|(with_reducible refine Rg.plan_done ?_)|(with_reducible refine Rg.calm_normal ?_))
 refine (clone_any l (by have := HN.out; omega) _ w.drew (show Sl w.drew _ _ from HS.out)).mono ?_
 rintro e w1 ⟨v1, rfl, o1, b1⟩
 have HM1 := Lib.hid ((show MapA w.drew Tryz.prog 3 KM n from HM.out).below b1)
 have B1 := Lib.hid ((Below.refl w.heap.size w).drew.trans b1)
 refine hK _ _ (Rg.Keep.of_below b1) ?_
 clear hK b1 o1 c2
 go_wp2_with (first
  | (at_mapUpdate; refine wp_mapSet rfl _ _ _ 101 rfl 3 22 Tryz.underlying3 Tryz.underlying101 KM n rfl HM1.out (by have := HN.out; unfold maxLen; omega) id_ _ rfl rfl hwf ?_; intro w2 hm2 hg2)
  |(with_reducible refine Rg.plan_pure ?_ ?_ ?_); kernel_rfl; kernel_rfl; intro _ _|(with_reducible refine Rg.plan_take ?_ ?_ ?_); kernel_rfl; kernel_rfl; intro _ _|(with_reducible refine Rg.plan_keep ?_ ?_); kernel_rfl; intro K hK|refine hK _ _ (Rg.Keep.refl _) ?_; clear hK|refine hK _ _ (Rg.Keep.of_below (by assumption)) ?_; clear hK|(with_reducible refine Rg.plan_skip ?_ ?_); kernel_rfl|(with_reducible refine Rg.plan_done ?_)|(with_reducible refine Rg.calm_normal ?_))
 go_end0
 exact ⟨rfl, hm2, (MutS.of_below B1.out : MutS (fun k => k = KM) w w1).grown hg2 (fun b e => .inl (by injection e with e; exact e.symm))⟩
def dgA (id_ t fr ta : Int) (v : Value) : Array Value := #[.int .i64 id_, .int .i64 t, .int .i64 fr, .int .i64 ta, v]
theorem AgDg : Agg Tryz.prog 39 5 := ⟨⟨_, Tryz.underlying39, rfl⟩, by kernel_rfl⟩
theorem ldDg (x : Value) : Instr.loadAt 39 x = loadAgg 39 x := rfl
theorem stDg (x y : Value) : Instr.storeAt 39 x y = storeAgg 39 x y := rfl
theorem alDg : Instr.alloc 39 true (.tuple #[]) = allocAgg 39 := rfl
theorem rldDg (w : World) (b : Nat) (h : (row? w b).map (·.size) = some 5) : (loadAgg 39 (.pointer (some ⟨b, 0, none⟩))).run Tryz.prog w = .ok (.agg ((row? w b).getD #[])) w := load_rule AgDg w b h
theorem rstDg (w : World) (b : Nat) (c' : Array Value) (h : (row? w b).map (·.size) = some 5) (hn : c'.size = 5) (h1 : allOne c' = true) : (storeAgg 39 (.pointer (some ⟨b, 0, none⟩)) (.agg c')).run Tryz.prog w = .ok () (w.setRow b c') := store_rule AgDg w b c' h hn h1
theorem ralDg (w : World) : (allocAgg 39).run Tryz.prog w = .ok (.pointer (some ⟨w.heap.size, 0, none⟩)) (w.alloc (.cells #[.int .i64 0, .int .i64 0, .int .i64 0, .int .i64 0, .slice none 0 0] 39)) := alloc_rule (n := 5) (by kernel_rfl) w
def buildDg (ps : Array (Nat × Value)) : Sem Value := Instr.build 39 ps
theorem bdDg (ps : Array (Nat × Value)) : Instr.build 39 ps = buildDg ps := rfl
theorem build39 (id_ t fr ta : Int) (a : Option Addr) (n c : Nat) (w : World) : (buildDg #[(0, .int .i64 id_), (1, .int .i64 t), (2, .int .i64 fr), (3, .int .i64 ta), (4, .slice a n c)]).run Tryz.prog w = .ok (.agg #[.int .i64 id_, .int .i64 t, .int .i64 fr, .int .i64 ta, .slice a n c]) w := Go.run_build w _ _ _ (by kernel_rfl)
theorem build390 (w : World) : (buildDg #[]).run Tryz.prog w = .ok (.agg #[.int .i64 0, .int .i64 0, .int .i64 0, .int .i64 0, .slice none 0 0]) w := Go.run_build w _ _ _ (by kernel_rfl)
theorem own_neNum {w : World} {N n k0 b : Nat} {e kt et : TypeId} {v : Value} {xs : List Value} (ho : w.ownsRow N e 1 v n xs) (h : NumI w Tryz.prog kt et b k0) : ∀ k, v.ownBlock = some k → k ≠ b := by
 rintro k hk rfl
 rcases ho.2 with ⟨rfl, _⟩ | ⟨g, cap, cur, rfl, hb, hg, _⟩
 ·cases hk
 ·simp [Value.ownBlock] at hk
  subst hk
  obtain ⟨D, es, cl, hh, _⟩ := h
  rw [hg] at hh; cases hh
theorem RT.neNum {w : World} {b m k0 : Nat} {T kt et : TypeId} {c : Array Value} (h : RT w b T c) (hm : NumI w Tryz.prog kt et m k0) : b ≠ m := by
 rintro rfl
 obtain ⟨D, es, cl, hh, _⟩ := hm
 have := h.symm.trans hh
 cases this
theorem dg_all (a b c d : Int) (x : Option Addr) (n m : Nat) : allOne #[.int .i64 a, .int .i64 b, .int .i64 c, .int .i64 d, .slice x n m] = true := by simp [allOne, Value.oneCell']
attribute [local go_sem ↓] ldDg stDg alDg bdDg
attribute [local go_sem] rldDg rstDg ralDg build39 build390 dg_all setRow_alloc_at setRow_alloc_past setRow_drew
set_option maxRecDepth 100000 in
set_option maxHeartbeats 4000000 in
theorem wire_any (H G n : Nat) (hn : n ≤ 100000) (s : HS) (t ta : Int) (hta : 0 ≤ ta ∧ ta ≤ 1000) (hro : s.role ≤ 1) (hids : s.ids ≤ 100000) (N0 N TB KM k last : Nat) (lo : List UInt8) (l : List UInt8) (hl : l.length = 256) (v : Value) (w : World) (hr : HR w H s) (hg : s.went = .map (some G)) (hG : NumI w Tryz.prog 3 3 G n) (hs : OwnB w N0 v l) (hN0 : N0 ≤ w.heap.size)
  (hNN : s.ideal = true → N ≤ H ∧ N ≤ G ∧ N ≤ N0) (htb : s.ideal = true → s.table = .pointer (some ⟨TB, 0, none⟩) ∧ TbI w N TB KM k lo last ∧ last ≤ 1000 ∧ k ≤ 10000 ∧ lo.length ≤ 1000000) :
  Calls Tryz.prog 32 #[.pointer (some ⟨H, 0, none⟩), .int .i64 t, .int .i64 ta, v] w fun e w' => ∃ id_ v' l', e = .returned (.agg (dgA id_ t s.addr ta v')) ∧ l'.length = 256 ∧ OwnB w' N0 v' l' ∧ HR w' H { s with ids := s.ids + 1 } ∧ NumI w' Tryz.prog 3 3 G (n + 1) ∧ (s.ideal = true → TbI w' N TB KM (k + 1) (lo.drop 256) (last + 1)) ∧ MutS (fun x => x = H ∨ x = G ∨ (s.ideal = true ∧ (x = TB ∨ x = KM))) w w' := by
 obtain ⟨ao, cap, hve, -⟩ := id hs.sl
 rw [hl] at hve
 subst hve
 obtain ⟨i1, hi1⟩ : ∃ i1 : Nat, s.ids + 1 = i1 := ⟨_, rfl⟩
 have e1 := wrap_nat (show (s.ids : Int) + 1 = (i1 : Nat) by omega) (by omega)
 have c9 : w.cell? ⟨H, 9, none⟩ = some (.int .i64 (s.ids : Nat)) := hr.c 9
 have f9 := hr.f 9
 have hlt := hr.lt
 have hHG : H ≠ G := RT.neNum hr hG
 have hwf : (Lit.int .i64 ta).wf = true := WalkArith.wf_i64 (by omega)
 have HRr := Lib.hid hr
 have HGn := Lib.hid (And.intro hG hg)
 have HO := Lib.hid hs
 have HT := Lib.hid htb
 have HN := Lib.hid (And.intro hn (And.intro hta (And.intro hro (And.intro hids (And.intro hl (And.intro hN0 (And.intro hNN (And.intro hi1 (And.intro hlt hHG)))))))))
 clear hr hG hg hs htb hn hta hro hids hN0 hNN hi1 hHG
 go_enter Tryz.func32, Tryz.ntmps32
 go_upto_region 2 with (fail)
 have hr1 : HR (w.setCell ⟨H, 9, none⟩ (.int .i64 (i1 : Nat))) H { s with ids := i1 } := by
  have := HRr.out.set 9 (.int .i64 (i1 : Nat))
  simp only [HS.row, List.setIfInBounds_toArray, List.set_cons_zero, List.set_cons_succ] at this
  exact this
 have al : Below w.heap.size (w.setCell ⟨H, 9, none⟩ (.int .i64 (i1 : Nat))) ((w.setCell ⟨H, 9, none⟩ (.int .i64 (i1 : Nat))).alloc (.cells #[.int .i64 0, .int .i64 0, .int .i64 0, .int .i64 0, .slice none 0 0] 39)) := (Below.refl _ _).alloc (by simp) _
 have hz : (w.setCell ⟨H, 9, none⟩ (.int .i64 (i1 : Nat))).heap.size = w.heap.size := by simp
 have m1 : MutS (fun k => k = H) w ((w.setCell ⟨H, 9, none⟩ (.int .i64 (i1 : Nat))).alloc (.cells #[.int .i64 0, .int .i64 0, .int .i64 0, .int .i64 0, .slice none 0 0] 39)) := ((MutS.refl (fun k => k = H) w).setCell H 9 none _ (.inl rfl)).alloc _
 have R1 := Lib.hid (show HR ((w.setCell ⟨H, 9, none⟩ (.int .i64 (i1 : Nat))).alloc (.cells #[.int .i64 0, .int .i64 0, .int .i64 0, .int .i64 0, .slice none 0 0] 39)) H { s with ids := i1 } from hr1.below (by rw [hz]; exact al))
 have RD := Lib.hid (show RT ((w.setCell ⟨H, 9, none⟩ (.int .i64 (i1 : Nat))).alloc (.cells #[.int .i64 0, .int .i64 0, .int .i64 0, .int .i64 0, .slice none 0 0] 39)) w.heap.size 39 #[.int .i64 0, .int .i64 0, .int .i64 0, .int .i64 0, .slice none 0 0] from RT.new _ _ _ _ hz.symm)
 have M1 := Lib.hid m1
 clear hr1 al hz m1 c9 f9 e1
 generalize ((w.setCell ⟨H, 9, none⟩ (.int .i64 (i1 : Nat))).alloc (.cells #[.int .i64 0, .int .i64 0, .int .i64 0, .int .i64 0, .slice none 0 0] 39)) = w1 at *
 have NG := Lib.hid (M1.out.numI HGn.out.1 (fun e => HN.out.2.2.2.2.2.2.2.2.2 e.symm))
 have c24 : w1.cell? ⟨H, 24, none⟩ = some (.map (some G)) := (R1.out.c 24).trans (congrArg some HGn.out.2)
 have zI : (zeroValue 3).run Tryz.prog w1 = .ok (.int .i64 0) w1 := by kernel_rfl
 go_upto_region 3 with (first
  | (at_lookup; refine wp_numAt rfl _ _ 59 rfl 3 3 Tryz.underlying3 Tryz.underlying59 Tryz.underlying3 zI G n rfl NG.out ta rfl hwf ?_; intro cz hcz)
  | (at_mapUpdate; refine wp_numSet rfl _ _ _ 59 rfl 3 3 Tryz.underlying3 Tryz.underlying59 Tryz.underlying3 G n rfl NG.out (by have := HN.out; unfold maxLen; omega) ta _ rfl rfl hwf (RowKit.wrap64_wf _) ?_; intro w2 ng2 hg2))
 have mg : MutS (fun k => k = G) w1 w2 := MutS.of_grown hg2 (fun b e => .inl (by injection e with e; exact e.symm))
 have M2 := Lib.hid (show MutS (fun k => k = H ∨ k = G) w w2 from (M1.out.mono fun k e => .inl (.inl e)).trans (mg.mono fun k e => .inl (.inr e)))
 have R2 := Lib.hid (R1.out.keep mg HN.out.2.2.2.2.2.2.2.2.2)
 have RD2 := Lib.hid (RT.keep mg RD.out (RT.neNum RD.out NG.out))
 have NG2 := Lib.hid ng2
 have OV2 := Lib.hid (OwnB.keep M2.out HO.out (fun k e h => by rcases h with h | h; exact own_ne HO.out HRr.out (by decide) k e h; exact own_neNum HO.out HGn.out.1 k e h))
 have c9 : w2.cell? ⟨H, 9, none⟩ = some (.int .i64 (i1 : Nat)) := R2.out.c 9
 have c0 : w2.cell? ⟨H, 0, none⟩ = some (.int .i64 (s.role : Nat)) := R2.out.c 0
 have c1 : w2.cell? ⟨H, 1, none⟩ = some (.int .i64 s.addr) := R2.out.c 1
 have hlt2 := R2.out.lt
 have hltD := RD2.out.lt
 clear mg hg2 ng2 NG c24 zI
 refine Rg.wp_region_plan (Rg.row [(0, 3), (1, 3), (2, 3), (3, 0), (4, 3), (5, 3), (6, 3), (7, 3), (8, 0), (9, 3), (10, 3), (11, 3), (12, 3), (13, 3), (14, 0), (15, 3), (16, 3), (17, 3), (18, 1)] [19]) [19] (by kernel_rfl) (by kernel_rfl) ?_
 simp only [Rg.row, Rg.PT.map, List.map_cons, List.map_nil, List.getD_cons_zero, List.getD_cons_succ]
 go_wp2_with (first
  |(with_reducible refine Rg.plan_pure ?_ ?_ ?_); kernel_rfl; kernel_rfl; intro _ _|(with_reducible refine Rg.plan_take ?_ ?_ ?_); kernel_rfl; kernel_rfl; intro _ _|(with_reducible refine Rg.plan_keep ?_ ?_); kernel_rfl; intro K hK|refine hK _ _ (Rg.Keep.refl _) ?_; clear hK|refine hK _ _ (Rg.Keep.of_below (by assumption)) ?_; clear hK|(with_reducible refine Rg.plan_skip ?_ ?_); kernel_rfl|(with_reducible refine Rg.plan_done ?_)|(with_reducible refine Rg.calm_normal ?_))
 have al : Below w2.drew.heap.size w2.drew (w2.drew.alloc (.cells #[.int .i64 0, .int .i64 0, .int .i64 0, .int .i64 0, .slice none 0 0] 39)) := (Below.refl _ _).alloc (Nat.le_refl _) _
 refine hK _ _ (Rg.Keep.of_below al) ?_
 clear hK al
 go_upto_region 4 with (first
  |(with_reducible refine Rg.plan_pure ?_ ?_ ?_); kernel_rfl; kernel_rfl; intro _ _|(with_reducible refine Rg.plan_take ?_ ?_ ?_); kernel_rfl; kernel_rfl; intro _ _|(with_reducible refine Rg.plan_keep ?_ ?_); kernel_rfl; intro K hK|refine hK _ _ (Rg.Keep.refl _) ?_; clear hK|refine hK _ _ (Rg.Keep.of_below (by assumption)) ?_; clear hK|(with_reducible refine Rg.plan_skip ?_ ?_); kernel_rfl|(with_reducible refine Rg.plan_done ?_)|(with_reducible refine Rg.calm_normal ?_))
 generalize hd1 : wrap64 (wrap64 (2 * (i1 : Nat)) + (s.role : Nat)) = d1 at *
 have b3 : Below w2.heap.size w2 (w2.alloc (.cells #[.int .i64 d1, .int .i64 t, .int .i64 s.addr, .int .i64 ta, .slice ao 256 cap] 39)).drew := ((Below.refl _ _).alloc (Nat.le_refl _) _).drew
 have rd3 : RT (w2.alloc (.cells #[.int .i64 d1, .int .i64 t, .int .i64 s.addr, .int .i64 ta, .slice ao 256 cap] 39)).drew w2.heap.size 39 #[.int .i64 d1, .int .i64 t, .int .i64 s.addr, .int .i64 ta, .slice ao 256 cap] := RT.new w2 _ _ _ rfl
 have R3 := Lib.hid (R2.out.below b3)
 have RD3 := Lib.hid (And.intro (RD2.out.below b3) rd3)
 have NG3 := Lib.hid (NG2.out.below b3)
 have OV3 := Lib.hid (show OwnB _ N0 _ l from own_below OV2.out b3)
 have M3 := Lib.hid (M2.out.below' b3)
 have hz3 : w2.heap.size < (w2.alloc (.cells #[.int .i64 d1, .int .i64 t, .int .i64 s.addr, .int .i64 ta, .slice ao 256 cap] 39)).drew.heap.size := rd3.lt
 clear hd1 b3 rd3 c9 c0 c1 hlt2
 generalize (w2.alloc (.cells #[.int .i64 d1, .int .i64 t, .int .i64 s.addr, .int .i64 ta, .slice ao 256 cap] 39)).drew = w3 at *
 have hne : w2.heap.size ≠ w.heap.size := by omega
 have HB2 := Lib.hid (show w.heap.size < w2.heap.size from hltD)
 generalize w2.heap.size = b2 at *
 have c2 : w3.cell? ⟨H, 2, none⟩ = some (.bool s.ideal) := R3.out.c 2
 cases hide : s.ideal
 case false =>
  rw [hide] at c2
  have HI := Lib.hid hide
  clear hide
  have l1 : (loadAgg 39 (.pointer (some ⟨b2, 0, none⟩))).run Tryz.prog w3 = .ok (.agg #[.int .i64 d1, .int .i64 t, .int .i64 s.addr, .int .i64 ta, .slice ao 256 cap]) w3 := by
   have := rldDg w3 b2 (by rw [RD3.out.2.row]; rfl); rw [RD3.out.2.row] at this; exact this
  have l2 := rstDg w3 w.heap.size #[.int .i64 d1, .int .i64 t, .int .i64 s.addr, .int .i64 ta, .slice ao 256 cap] (by rw [RD3.out.1.row]; rfl) rfl (dg_all _ _ _ _ _ _ _)
  go_wp2_with fail
  have m34 : MutS (fun k => k = w.heap.size) w3 (w3.setRow w.heap.size #[.int .i64 d1, .int .i64 t, .int .i64 s.addr, .int .i64 ta, .slice ao 256 cap]) := (MutS.refl (fun k => k = w.heap.size) w3).setRow _ _ (.inl rfl)
  have hi1 := HN.out.2.2.2.2.2.2.2.1
  refine bodyPost_ret (results_row AgDg rfl _ _ w.heap.size _ rfl (row?_setRow_eq RD3.out.1.row) rfl) rfl ⟨d1, _, l, rfl, HN.out.2.2.2.2.1, OwnB.keep m34 OV3.out (fun k e => own_ne OV3.out RD3.out.1 (by decide) k e), ?_, m34.numI NG3.out (fun e => RT.neNum RD3.out.1 NG3.out e.symm), fun h => (by rw [HI.out] at h; cases h), ?_⟩
  ·rw [hi1]
   exact R3.out.keep m34 (fun e => RT.ne R3.out RD3.out.1 (by decide) e)
  ·exact (M3.out.mono fun k e => .inl (e.imp id .inl)).setRow _ _ (.inr (Nat.le_refl _))
 case true =>
  rw [hide] at c2
  obtain ⟨htb, tbi, hla, hk, hlo⟩ := HT.out hide
  obtain ⟨hNH, hNG, hN0⟩ := HN.out.2.2.2.2.2.2.1 hide
  have c5 : w3.cell? ⟨H, 5, none⟩ = some (.pointer (some ⟨TB, 0, none⟩)) := (R3.out.c 5).trans (congrArg some htb)
  have TI := Lib.hid (tbi.keep M3.out (fun x hx e => by rcases e with e | e <;> omega))
  have HI := Lib.hid (And.intro hide (And.intro htb (And.intro hla (And.intro hk (And.intro hlo (And.intro hNH (And.intro hNG (And.intro hN0 tbi.lo))))))))
  obtain ⟨vo, tr, ts, tne⟩ := TI.out.row
  have TR := Lib.hid (And.intro tr (And.intro ts tne))
  clear hide htb tbi hla hk hlo hNH hNG hN0 tr ts tne
  go_wp2_with fail
  refine (tseal_any TB 256 (by omega) lo HI.out.2.2.2.2.1 vo (.map (some KM)) last HI.out.2.2.1 w3 TR.out.1 TR.out.2.1 (fun b off n cap e h0 => (TR.out.2.2 b off n cap e h0).2)).mono ?_
  rintro e w4 ⟨v4, vo4, rfl, o4, tr4, ts4, tn4, mt4⟩
  obtain ⟨a4, p4, he4, -⟩ := id (Own.sl (l := padded lo 256) (by rw [padded_length]; exact o4))
  rw [padded_length] at he4
  subst he4
  have hTH : TB ≠ H := by have := HI.out; omega
  have hKT : KM ≠ TB := by
   rintro rfl
   obtain ⟨D, es, cl, hh, _⟩ := TI.out.map
   obtain ⟨_, h2⟩ := row?_some TR.out.1
   rw [h2] at hh; cases hh
  have m4 : MutS (fun x => x = TB) w3 w4 := MutS.of_mut mt4 (.inl rfl)
  have R4 := Lib.hid (R3.out.keep m4 (fun e => hTH e.symm))
  have c5 : w4.cell? ⟨H, 5, none⟩ = some (.pointer (some ⟨TB, 0, none⟩)) := (R4.out.c 5).trans (congrArg some HI.out.2.1)
  have MA4 := Lib.hid (m4.mapA TI.out.map hKT)
  have OV4 := Lib.hid (OwnB.keep m4 OV3.out (fun q e h => by have := (OV3.out.lt q e).1; have := HI.out; omega))
  have H4 := Lib.hid (And.intro o4 (And.intro tr4 (And.intro ts4 (And.intro tn4 (And.intro hTH (And.intro hKT m4))))))
  clear o4 tr4 ts4 tn4 mt4 hTH hKT m4
  go_wp2_with fail
  refine (keep_any TB KM k (by have := HI.out; omega) vo4 _ _ (by have := HI.out; omega) l (by have := HN.out; omega) _ w4 H4.out.2.1 MA4.out OV4.out.sl).mono ?_
  rintro e w5 ⟨rfl, ma5, m5⟩
  have m35 : MutS (fun x => x = TB ∨ x = KM) w3 w5 := (H4.out.2.2.2.2.2.2.mono fun x e => .inl (.inl e)).trans (m5.mono fun x e => .inl (.inr e))
  have rb5 : RT w5 b2 39 #[.int .i64 d1, .int .i64 t, .int .i64 s.addr, .int .i64 ta, .slice ao 256 cap] := RT.keep m35 RD3.out.2 (fun e => by have := HB2.out; have := HI.out; omega)
  have rt5 := RT.keep m35 RD3.out.1 (fun e => by have := HI.out; omega)
  have rr5 := HR.keep R3.out m35 (fun e => by have := HI.out; omega)
  have ng5 := m35.numI NG3.out (fun e => by have := HI.out; omega)
  have ow5 : OwnB w5 N0 (.slice a4 256 p4) (padded lo 256) := by
   have o4 : OwnB w4 w3.heap.size (.slice a4 256 p4) (padded lo 256) := by unfold OwnB; rw [padded_length]; exact H4.out.1
   exact own_lower (OwnB.keep m5 o4 (fun q e h => by have := (o4.lt q e).1; have := R3.out.lt; have := M3.out.size; have := HI.out; omega)) (Nat.le_trans HN.out.2.2.2.2.2.1 M3.out.size)
  have tr5 : row? w5 TB = some (tbA vo4 (last + 1 : Nat) (.map (some KM))) := m5.row H4.out.2.1 (fun e => H4.out.2.2.2.2.2.1 e.symm)
  have ts5 : Sl w5 vo4 (lo.drop 256) := m5.sl H4.out.2.2.1 (fun b off n cap e h0 h => by
   subst h
   obtain ⟨D, es, cl, hh, _⟩ := MA4.out
   obtain ⟨ao', cap', e', -, -, hp⟩ := H4.out.2.2.1
   rw [e] at e'
   injection e' with e1 e2 e3
   obtain ⟨bb, off', rfl, hcell⟩ := hp (by omega)
   injection e1 with e1; injection e1 with e1; subst e1
   have := hcell 0 (by omega)
   unfold World.cell? at this
   rw [hh] at this; cases this)
  have T5 := Lib.hid (show TbI w5 N TB KM (k + 1) (lo.drop 256) (last + 1) from ⟨⟨vo4, tr5, ts5, fun b off n cap e h0 => by
   obtain ⟨off', n', cap', e', h0'⟩ := H4.out.2.2.2.1 b off n cap e h0
   exact TR.out.2.2 b off' n' cap' e' h0'⟩, ma5, by have := HI.out; omega, by have := HI.out; omega, by have := HI.out; have := M3.out.size; have := m35.size; omega⟩)
  have c0 : w5.cell? ⟨b2, 0, none⟩ = some (.int .i64 d1) := row?_cell rb5.row 0
  have f0 : w5.frozen? ⟨b2, 0, none⟩ = false := row?_frozen rb5.row 0
  have c4 : w5.cell? ⟨b2, 4, none⟩ = some (.slice ao 256 cap) := row?_cell rb5.row 4
  have f4 : w5.frozen? ⟨b2, 4, none⟩ = false := row?_frozen rb5.row 4
  have H5 := Lib.hid (And.intro rb5 (And.intro rt5 (And.intro rr5 (And.intro ng5 (And.intro ow5 (show MutS (fun x => x = H ∨ x = G ∨ (s.ideal = true ∧ (x = TB ∨ x = KM))) w w5 from (M3.out.mono fun x e => .inl (e.imp id .inl)).trans (m35.mono fun x e => .inl (.inr (.inr ⟨HI.out.1, e⟩)))))))))
  clear m35 rb5 rt5 rr5 ng5 ow5 tr5 ts5 m5 ma5 c5
  go_upto_region 8 with (fail)
  have r6 : row? ((w5.setCell ⟨b2, 0, none⟩ (.int .i64 ((last + 1 : Nat)))).setCell ⟨b2, 4, none⟩ (.slice a4 256 p4)) b2 = some #[.int .i64 ((last + 1 : Nat)), .int .i64 t, .int .i64 s.addr, .int .i64 ta, .slice a4 256 p4] := row?_setCell_eq (row?_setCell_eq H5.out.1.row _) _
  have m56 : MutS (fun x => x = b2) w5 ((w5.setCell ⟨b2, 0, none⟩ (.int .i64 ((last + 1 : Nat)))).setCell ⟨b2, 4, none⟩ (.slice a4 256 p4)) := ((MutS.refl (fun x => x = b2) w5).setCell b2 0 none _ (.inl rfl)).setCell b2 4 none _ (.inl rfl)
  have rt6 := RT.keep m56 H5.out.2.1 (fun e => by have := HB2.out; omega)
  have h62 : ((last + 1 : Nat) : Int) = (last : Int) + 1 := by omega
  simp only [h62] at r6 m56 rt6
  have R6 := Lib.hid (And.intro r6 (And.intro m56 rt6))
  clear r6 m56 rt6 c0 f0 c4 f4
  generalize ((w5.setCell ⟨b2, 0, none⟩ (.int .i64 ((last : Int) + 1))).setCell ⟨b2, 4, none⟩ (.slice a4 256 p4)) = w6 at *
  generalize hl1 : (last : Int) + 1 = lz at *
  have l1 : (loadAgg 39 (.pointer (some ⟨b2, 0, none⟩))).run Tryz.prog w6 = .ok (.agg #[.int .i64 lz, .int .i64 t, .int .i64 s.addr, .int .i64 ta, .slice a4 256 p4]) w6 := by
   have := rldDg w6 b2 (by rw [R6.out.1]; rfl); rw [R6.out.1] at this; exact this
  have l2 := rstDg w6 w.heap.size #[.int .i64 lz, .int .i64 t, .int .i64 s.addr, .int .i64 ta, .slice a4 256 p4] (by rw [R6.out.2.2.row]; rfl) rfl (dg_all _ _ _ _ _ _ _)
  go_wp2_with fail
  have m67 : MutS (fun k => k = w.heap.size ∨ k = b2) w5 (w6.setRow w.heap.size #[.int .i64 lz, .int .i64 t, .int .i64 s.addr, .int .i64 ta, .slice a4 256 p4]) := (R6.out.2.1.mono fun x e => .inl (.inr e)).setRow _ _ (.inl (.inl rfl))
  have hi1 := HN.out.2.2.2.2.2.2.2.1
  refine bodyPost_ret (results_row AgDg rfl _ _ w.heap.size _ rfl (row?_setRow_eq R6.out.2.2.row) rfl) rfl ⟨lz, _, padded lo 256, rfl, padded_length _ _, OwnB.keep m67 H5.out.2.2.2.2.1 (fun q e h => ?_), ?_, m67.numI H5.out.2.2.2.1 (fun e => ?_), fun _ => T5.out.keep m67 (fun x hx e => ?_), ?_⟩
  ·rcases h with h | h
   ·exact own_ne H5.out.2.2.2.2.1 H5.out.2.1 (by decide) q e h
   ·exact own_ne H5.out.2.2.2.2.1 H5.out.1 (by decide) q e h
  ·rw [hi1]
   exact H5.out.2.2.1.keep m67 (fun e => e.elim (RT.ne H5.out.2.2.1 H5.out.2.1 (by decide)) (RT.ne H5.out.2.2.1 H5.out.1 (by decide)))
  ·exact e.elim (fun e => RT.neNum H5.out.2.1 H5.out.2.2.2.1 e.symm) (fun e => RT.neNum H5.out.1 H5.out.2.2.2.1 e.symm)
  ·have := HI.out; have := HB2.out; omega
  ·exact H5.out.2.2.2.2.2.trans' m67 (fun x e => by have := HB2.out; right; omega)
end Go.Proofs.YthjbmggpleliaaaGreatDoor

end
section
namespace Go.Rw
open Go Go.RowKit
theorem results_row2h {P : Program} {fn : Func} {p a : Tmp} {t n : Nat} (A : Agg P t n) (hr : fn.results = #[.cell p t, .tmp a]) (tmps : Array Value) (w : World) (blk : Nat) (cells : Array Value)
  (hp : tmps.getD p undef = .pointer (some ⟨blk, 0, none⟩)) (h : row? w blk = some cells) (hn : cells.size = n) : (results fn tmps).run P w = .ok (.tuple #[.agg cells, tmps.getD a undef]) w := by
 have h1 := results_row (fn := { fn with results := #[.cell p t] }) A rfl tmps w blk cells hp h hn
 simp only [results] at h1 ⊢
 simp [hr, Sem.run_bind, Result.andThen] at h1 ⊢
 cases hq : Sem.run P (asAddr (tmps[p]?.getD undef)) w with
 | ok x w1 =>
  rw [hq] at h1
  simp only [] at h1 ⊢
  rw [h1]
 | halt x w1 => rw [hq] at h1; cases h1
end Go.Rw
namespace Go
def Exit.jumpM (J : Nat → Act → World → Prop) (Q : Exit → Act → World → Prop) : Exit → Act → World → Prop
 | .goto l', a, w => J l' a w
 | e, a, w => Q e a w
theorem wp_scope_multi {P : Program} {a : Act} {w : World} {Q : Exit → Act → World → Prop} {c : Code} (rest : Nat → Code) (J : Nat → Act → World → Prop) (μ : Nat → Nat) (hf : ∀ l a w, J l a w → findLabel c l = some (rest l))
  (first : c.wp P (Exit.jumpM J Q) a w)
  (pass : ∀ l a w, J l a w → (rest l).wp P (Exit.jumpM (fun l' a' w' => J l' a' w' ∧ μ l' < μ l) Q) a w) : (Code.scope c).wp P Q a w := by
 intro b k cs
 have hg : ∀ l a w, J l a w → gotoIn l (.inScope c :: k) = some (.code (rest l) :: .inScope c :: k) := fun l a w h => by simp [gotoIn, hf l a w h]
 have key : ∀ n l a w, μ l = n → J l a w → ∃ e a' w', Q e a' w' ∧ Arrives P (lone (b.at a (.code (rest l) :: .inScope c :: k)) cs w) b k cs e a' w' := by
  intro n
  induction n using Nat.strongRecOn with
  | _ n ih =>
   intro l a w hn hJ
   obtain ⟨e, a₁, w₁, hq, harr⟩ := pass l a w hJ b (.inScope c :: k) cs
   cases e with
   | normal => exact ⟨.normal, a₁, w₁, hq, Steps.trans harr (.one step_inScope)⟩
   | exit id => exact ⟨.exit id, a₁, w₁, hq, fun k' hk => harr k' (by simp [exitTo, hk])⟩
   | goto l' =>
    obtain ⟨hJ', hlt⟩ := hq
    obtain ⟨e₂, a₂, w₂, hq₂, harr₂⟩ := ih _ (by omega) l' a₁ w₁ rfl hJ'
    exact ⟨e₂, a₂, w₂, hq₂, .of_steps (harr _ (hg _ _ _ hJ')) harr₂⟩
   | ret => exact ⟨_, a₁, w₁, hq, harr⟩
   | panic ch => exact ⟨_, a₁, w₁, hq, harr⟩
   | outgrown => exact ⟨_, a₁, w₁, hq, harr⟩
 obtain ⟨e, a₁, w₁, hq, harr⟩ := first b (.inScope c :: k) cs
 cases e with
 | normal => exact ⟨.normal, a₁, w₁, hq, .head step_scope (Steps.trans harr (.one step_inScope))⟩
 | exit id => exact ⟨.exit id, a₁, w₁, hq, fun k' hk => .head step_scope (harr k' (by simp [exitTo, hk]))⟩
 | goto l' =>
  obtain ⟨e₂, a₂, w₂, hq₂, harr₂⟩ := key _ l' a₁ w₁ rfl hq
  exact ⟨e₂, a₂, w₂, hq₂, .of_steps (.head step_scope (harr _ (hg _ _ _ hq))) harr₂⟩
 | ret => exact ⟨_, a₁, w₁, hq, .of_steps (.one step_scope) harr⟩
 | panic ch => exact ⟨_, a₁, w₁, hq, .of_steps (.one step_scope) harr⟩
 | outgrown => exact ⟨_, a₁, w₁, hq, .of_steps (.one step_scope) harr⟩
theorem wp_scope_two {P : Program} {a : Act} {w : World} {Q : Exit → Act → World → Prop} {c r0 r1 : Code} (J : Nat → Act → World → Prop) (h0 : findLabel c 0 = some r0) (h1 : findLabel c 1 = some r1) (hJ : ∀ l a w, J l a w → l = 0 ∨ l = 1)
  (first : c.wp P (Exit.jumpM J Q) a w) (pass0 : ∀ a w, J 0 a w → r0.wp P (Exit.jumpM (fun _ _ _ => False) Q) a w) (pass1 : ∀ a w, J 1 a w → r1.wp P (Exit.jumpM (fun l' a' w' => l' = 0 ∧ J 0 a' w') Q) a w) : (Code.scope c).wp P Q a w := by
 refine wp_scope_multi (fun l => if l = 0 then r0 else r1) J (fun l => l) (fun l a w h => ?_) first (fun l a w h => ?_)
 ·rcases hJ l a w h with rfl | rfl
  ·exact h0
  ·exact h1
 ·rcases hJ l a w h with rfl | rfl
  ·refine Code.wp_mono ?_ (pass0 a w h)
   intro e a' w' he
   cases e <;> first | exact he | exact he.elim
  ·refine Code.wp_mono ?_ (pass1 a w h)
   intro e a' w' he
   cases e
   case goto l' =>
    obtain ⟨rfl, hj⟩ := he
    exact ⟨hj, Nat.zero_lt_one⟩
   all_goals exact he
end Go
namespace Go.Proofs.YthjbmggpleliaaaGreatDoor
open Go Go.RowKit Go.Rw Aes Hdr Vlt Hst
def tickF (H d : Nat) (t : Int) (z : Nat → Value) : Array Value := #[.pointer (some ⟨H, 0, none⟩), .int .i64 t, z 2, z 3, .pointer (some ⟨d, 0, none⟩), z 5, z 6, z 7, z 8, z 9, z 10, z 11, z 12, z 13, z 14, z 15, z 16, z 17, z 18, z 19, z 20, z 21, z 22, z 23, z 24, z 25, z 26, z 27, z 28, z 29, z 30, z 31, z 32, z 33, z 34, z 35, z 36, z 37, z 38, z 39, z 40, z 41, z 42, z 43, z 44, z 45, z 46, z 47, z 48, z 49, z 50, z 51, z 52, z 53, z 54, z 55, z 56, z 57, z 58, z 59, z 60, z 61, z 62, z 63, z 64, z 65, z 66, z 67, z 68, z 69, z 70, z 71, z 72, z 73, z 74, z 75, z 76, z 77, z 78, z 79, z 80, z 81, z 82, z 83, z 84, z 85, z 86, z 87, z 88, z 89, z 90, z 91, z 92, z 93, z 94, z 95, z 96, z 97, z 98, z 99, z 100, z 101, z 102, z 103, z 104, z 105, z 106, z 107, z 108, z 109, z 110, z 111, z 112, z 113, z 114, z 115, z 116, z 117, z 118, z 119, z 120, z 121, z 122]
theorem alDu : Instr.alloc 92 true (.tuple #[]) = allocAgg 92 := rfl
theorem ralDu (w : World) : (allocAgg 92).run Tryz.prog w = .ok (.pointer (some ⟨w.heap.size, 0, none⟩)) (w.alloc (.cells #[.int .i64 0, .slice none 0 0] 92)) := alloc_rule (n := 2) (by kernel_rfl) w
attribute [local go_sem ↓] ldDg stDg alDg bdDg alDu
attribute [local go_sem] rldDg rstDg ralDg ralDu build39 build390 dg_all setRow_alloc_at setRow_alloc_past setRow_drew
set_option maxRecDepth 100000 in
set_option maxHeartbeats 1000000 in
theorem tick_nil (t : Int) (w : World) : Calls Tryz.prog 10 #[.pointer none, .int .i64 t] w fun e w' => e = .returned (.tuple #[.agg (dgA 0 0 0 0 (.slice none 0 0)), .bool false]) ∧ Below w.heap.size w w' := by
 go_enter Tryz.func10, Tryz.ntmps10
 go_wp2_with fail
 go_step3
 go_wp2_with fail
 rw [Exit.noGoto_ret]
 exact bodyPost_ret (results_row2h AgDg rfl _ _ w.heap.size _ rfl (row?_alloc_at _ _ _ _ rfl) rfl) rfl ⟨rfl, (Below.refl _ _).alloc (Nat.le_refl _) _⟩
theorem tickJ {J : Nat → Act → World → Prop} {H d : Nat} {t : Int} {R : Nat → World → Prop} (h : ∀ l a w', J l a w' ↔ ((l = 0 ∨ l = 1) ∧ ∃ z, a = ⟨tickF H d t z, []⟩ ∧ R l w')) {l : Nat} {tm : Array Value} {w' : World} (hl : l = 0 ∨ l = 1) (ht : tm = tickF H d t (fun i => tm.getD i undef)) (hr : R l w') : J l ⟨tm, []⟩ w' :=
 (h _ _ _).2 ⟨hl, fun i => tm.getD i undef, by rw [← ht], hr⟩
set_option maxRecDepth 100000 in
set_option maxHeartbeats 4000000 in
theorem tick_bare (H L LM N n : Nat) (s : HS) (K T R : List UInt8) (S : Int → Bool) (t : Int) (ht : 0 ≤ t ∧ t ≤ 1000000) (hro : s.role ≤ 1) (hc : s.cur = .pointer none) (hb : s.begun = .slice none 0 0) (hcl : s.closing = false) (hd : s.dues = .slice none 0 0) (w : World) (hi : HI w N H L LM s K T R n S) :
  Calls Tryz.prog 10 #[.pointer (some ⟨H, 0, none⟩), .int .i64 t] w fun e w' => e = .returned (.tuple #[.agg (dgA 0 0 0 0 (.slice none 0 0)), .bool false]) ∧ Below w.heap.size w w' := by
 have b0 : Below w.heap.size w (w.alloc (.cells #[.int .i64 0, .int .i64 0, .int .i64 0, .int .i64 0, .slice none 0 0] 39)) := (Below.refl _ _).alloc (Nat.le_refl _) _
 have R0 := Lib.hid (show row? (w.alloc (.cells #[.int .i64 0, .int .i64 0, .int .i64 0, .int .i64 0, .slice none 0 0] 39)) w.heap.size = some #[.int .i64 0, .int .i64 0, .int .i64 0, .int .i64 0, .slice none 0 0] from row?_alloc_at _ _ _ _ rfl)
 have HI0 := Lib.hid (hi.below b0)
 have B0 := Lib.hid b0
 have HN := Lib.hid (And.intro ht (And.intro hro (And.intro hc (And.intro hb (And.intro hcl hd)))))
 obtain ⟨J, hJ⟩ : ∃ J : Nat → Act → World → Prop, ∀ l a w', J l a w' ↔ ((l = 0 ∨ l = 1) ∧ ∃ z, a = ⟨tickF H w.heap.size t z, []⟩ ∧ row? w' w.heap.size = some #[.int .i64 0, .int .i64 0, .int .i64 0, .int .i64 0, .slice none 0 0] ∧ Below w.heap.size w w' ∧ HI w' N H L LM s K T R n S) := ⟨_, fun _ _ _ => Iff.rfl⟩
 have HJ := Lib.hid hJ
 clear hi b0 ht hro hc hb hcl hd hJ
 go_enter Tryz.func10, Tryz.ntmps10
 go_wp2_with fail
 generalize (w.alloc (.cells #[.int .i64 0, .int .i64 0, .int .i64 0, .int .i64 0, .slice none 0 0] 39)) = w0 at *
 refine wp_scope_two J rfl rfl (fun l a w h => ((HJ.out l a w).1 h).1) ?first ?pass0 ?pass1
 case first =>
  have b1 : Below w0.heap.size w0 (w0.alloc (.cells #[.int .i64 0, .slice none 0 0] 92)) := (Below.refl _ _).alloc (Nat.le_refl _) _
  have R1 := Lib.hid (Rg.stable_row b1 R0.out)
  have HI1 := Lib.hid (HI0.out.below b1)
  have B1 := Lib.hid (B0.out.trans (b1.mono B0.out.size))
  clear b1
  go_wp2_with fail
  generalize (w0.alloc (.cells #[.int .i64 0, .slice none 0 0] 92)) = w1 at *
  refine (idle_none H s t w1 HI1.out.hr HN.out.2.2.1 HN.out.2.2.2.1 HN.out.2.2.2.2.1).mono ?_
  rintro e w2 ⟨rfl, rfl⟩
  have c17 : w1.cell? ⟨H, 17, none⟩ = some (.pointer none) := (HI1.out.hr.c 17).trans (congrArg some HN.out.2.2.1)
  have c12 : w1.cell? ⟨H, 12, none⟩ = some (.pointer (some ⟨L, 0, none⟩)) := (HI1.out.hr.c 12).trans (congrArg some HI1.out.as_)
  go_wp2_with fail
  refine (slot_any L LM s.role HN.out.2.1 n S t HN.out.1 w1 HI1.out.lad).mono ?_
  rintro e w2 ⟨rfl, b2⟩
  have R2 := Lib.hid (Rg.stable_row b2 R1.out)
  have HI2 := Lib.hid (HI1.out.below b2)
  have B2 := Lib.hid (B1.out.trans (b2.mono B1.out.size))
  clear b2 c17 c12
  cases slotB (s.role : Nat) S t
  ·go_wp2_with fail
   go_step3
   exact tickJ HJ.out (.inl rfl) (by kernel_rfl) ⟨R2.out, B2.out, HI2.out⟩
  ·go_wp2_with fail
   refine (conns_none H s w2 HI2.out.hr HN.out.2.2.1 HN.out.2.2.2.1).mono ?_
   rintro e w3 ⟨rfl, rfl⟩
   go_wp2_with fail
   go_step3
   exact tickJ HJ.out (.inr rfl) (by kernel_rfl) ⟨R2.out, B2.out, HI2.out⟩
 case pass0 =>
  intro a wa hja
  obtain ⟨-, z, rfl, hr, hb, hi⟩ := (HJ.out 0 a wa).1 hja
  have HR := Lib.hid (And.intro hr hb)
  have l2 := rstDg wa w.heap.size #[.int .i64 0, .int .i64 0, .int .i64 0, .int .i64 0, .slice none 0 0] (by rw [hr]; rfl) rfl (dg_all _ _ _ _ _ _ _)
  clear hja hr hb hi
  simp only [tickF]
  go_wp2_with fail
  simp only [Exit.jumpM]
  exact bodyPost_ret (results_row2h AgDg rfl _ _ w.heap.size _ rfl (row?_setRow_eq HR.out.1) rfl) rfl ⟨rfl, below_setRow HR.out.2 (Nat.le_refl _) _⟩
 case pass1 =>
  intro a wa hja
  obtain ⟨-, z, rfl, hr, hb, hi⟩ := (HJ.out 1 a wa).1 hja
  have HR := Lib.hid (And.intro hr (And.intro hb hi))
  have c21 : wa.cell? ⟨H, 21, none⟩ = some (.slice none 0 0) := (hi.hr.c 21).trans (congrArg some HN.out.2.2.2.2.2)
  clear hja hr hb hi
  simp only [tickF]
  go_wp2_with fail
  go_step3
  exact ⟨rfl, tickJ HJ.out (.inl rfl) (by kernel_rfl) ⟨HR.out.1, HR.out.2.1, HR.out.2.2⟩⟩
end Go.Proofs.YthjbmggpleliaaaGreatDoor

end
section
namespace Go.Proofs.YthjbmggpleliaaaGreatDoor
open Go Go.RowKit Go.Rw Aes Hdr Vlt Hst
structure Cl (w : World) (N H L LM KN G c F Q g : Nat) (s : HS) (cc : Array Value) (K T R D RN IL key : List UInt8) (n gn bg : Nat) (last : Int) (S : Int → Bool) : Prop where
 hi : HI w N H L LM s K T R n S
 ci : CI w N c F Q g cc D RN IL key last bg
 st : s.cur = .pointer (some ⟨c, 0, none⟩) ∧ s.begun = .slice none 0 0 ∧ s.closing = false ∧ s.role = 0 ∧ s.addr = 0 ∧ s.used = true
 kn : s.known = .map (some KN) ∧ SetI w Tryz.prog 3 KN 0 (fun _ => false)
 wn : s.went = .map (some G) ∧ NumI w Tryz.prog 3 3 G gn
 ln : D.length = 8 ∧ RN.length = 32 ∧ IL.length = 8 ∧ key.length = 88
 ne : KN ≠ G ∧ LM ≠ KN ∧ LM ≠ G ∧ N ≤ G ∧ N ≤ KN
theorem CI.below {w w' : World} {N c F Q g bg : Nat} {cc : Array Value} {D RN IL key : List UInt8} {last : Int} (h : CI w N c F Q g cc D RN IL key last bg) (hb : Below w.heap.size w w') : CI w' N c F Q g cc D RN IL key last bg :=
 h.keep (S := fun _ => False) (MutS.of_below hb) (fun _ _ => id) (fun _ _ _ => id)
theorem Cl.below {w w' : World} {N H L LM KN G c F Q g : Nat} {s : HS} {cc : Array Value} {K T R D RN IL key : List UInt8} {n gn bg : Nat} {last : Int} {S : Int → Bool} (h : Cl w N H L LM KN G c F Q g s cc K T R D RN IL key n gn bg last S) (hb : Below w.heap.size w w') : Cl w' N H L LM KN G c F Q g s cc K T R D RN IL key n gn bg last S :=
 ⟨h.hi.below hb, h.ci.below hb, h.st, ⟨h.kn.1, h.kn.2.below hb⟩, ⟨h.wn.1, h.wn.2.below hb⟩, h.ln, h.ne⟩
attribute [local go_sem ↓] ldDg stDg alDg bdDg alDu
attribute [local go_sem] rldDg rstDg ralDg ralDu build39 build390 dg_all setRow_alloc_at setRow_alloc_past setRow_drew
set_option maxRecDepth 100000 in
set_option maxHeartbeats 4000000 in
theorem tick_wait (N H L LM KN G c F Q g : Nat) (s : HS) (cc : Array Value) (K T R D RN IL key : List UInt8) (n gn bg : Nat) (last : Int) (S : Int → Bool) (t : Int) (ht : 0 ≤ t ∧ t ≤ 1000000) (hla : last ≤ t ∧ t - last < 600 ∧ 0 ≤ last) (hsl : slotB (0 : Nat) S t = false) (w : World) (hi : Cl w N H L LM KN G c F Q g s cc K T R D RN IL key n gn bg last S) :
  Calls Tryz.prog 10 #[.pointer (some ⟨H, 0, none⟩), .int .i64 t] w fun e w' => e = .returned (.tuple #[.agg (dgA 0 0 0 0 (.slice none 0 0)), .bool false]) ∧ Below w.heap.size w w' := by
 have b0 : Below w.heap.size w (w.alloc (.cells #[.int .i64 0, .int .i64 0, .int .i64 0, .int .i64 0, .slice none 0 0] 39)) := (Below.refl _ _).alloc (Nat.le_refl _) _
 have R0 := Lib.hid (show row? (w.alloc (.cells #[.int .i64 0, .int .i64 0, .int .i64 0, .int .i64 0, .slice none 0 0] 39)) w.heap.size = some #[.int .i64 0, .int .i64 0, .int .i64 0, .int .i64 0, .slice none 0 0] from row?_alloc_at _ _ _ _ rfl)
 have HI0 := Lib.hid (hi.below b0)
 have B0 := Lib.hid b0
 have HN := Lib.hid (And.intro ht (And.intro hla hsl))
 obtain ⟨J, hJ⟩ : ∃ J : Nat → Act → World → Prop, ∀ l a w', J l a w' ↔ ((l = 0 ∨ l = 1) ∧ ∃ z, a = ⟨tickF H w.heap.size t z, []⟩ ∧ row? w' w.heap.size = some #[.int .i64 0, .int .i64 0, .int .i64 0, .int .i64 0, .slice none 0 0] ∧ Below w.heap.size w w' ∧ l = 0) := ⟨_, fun _ _ _ => Iff.rfl⟩
 have HJ := Lib.hid hJ
 clear hi b0 ht hla hsl hJ
 go_enter Tryz.func10, Tryz.ntmps10
 go_wp2_with fail
 generalize (w.alloc (.cells #[.int .i64 0, .int .i64 0, .int .i64 0, .int .i64 0, .slice none 0 0] 39)) = w0 at *
 refine wp_scope_two J rfl rfl (fun l a w h => ((HJ.out l a w).1 h).1) ?first ?pass0 ?pass1
 case first =>
  have b1 : Below w0.heap.size w0 (w0.alloc (.cells #[.int .i64 0, .slice none 0 0] 92)) := (Below.refl _ _).alloc (Nat.le_refl _) _
  have R1 := Lib.hid (Rg.stable_row b1 R0.out)
  have HI1 := Lib.hid (HI0.out.below b1)
  have B1 := Lib.hid (B0.out.trans (b1.mono B0.out.size))
  clear b1
  go_wp2_with fail
  generalize (w0.alloc (.cells #[.int .i64 0, .slice none 0 0] 92)) = w1 at *
  refine (idle_one H c s t last (by have := HN.out; omega) w1 HI1.out.hi.hr HI1.out.st.1 HI1.out.st.2.1 HI1.out.st.2.2.1 ((row?_cell HI1.out.ci.row.row 5).trans HI1.out.ci.last_)).mono ?_
  rintro e w2 ⟨rfl, b2⟩
  have R2 := Lib.hid (Rg.stable_row b2 R1.out)
  have HI2 := Lib.hid (HI1.out.below b2)
  have B2 := Lib.hid (B1.out.trans (b2.mono B1.out.size))
  have c17 : w2.cell? ⟨H, 17, none⟩ = some (.pointer (some ⟨c, 0, none⟩)) := (HI2.out.hi.hr.c 17).trans (congrArg some HI2.out.st.1)
  clear b2
  go_wp2_with fail
  refine (losses_none c F Q t w2 ((row?_cell HI2.out.ci.row.row 279).trans HI2.out.ci.fl) ((row?_cell HI2.out.ci.row.row 280).trans HI2.out.ci.ck) ((row?_cell HI2.out.ci.row.row 281).trans HI2.out.ci.times) HI2.out.ci.flr.row HI2.out.ci.ckr.row).mono ?_
  rintro e w3 ⟨rfl, b3⟩
  have R3 := Lib.hid (Rg.stable_row b3 R2.out)
  have HI3 := Lib.hid (HI2.out.below b3)
  have B3 := Lib.hid (B2.out.trans (b3.mono B2.out.size))
  have c12 : w3.cell? ⟨H, 12, none⟩ = some (.pointer (some ⟨L, 0, none⟩)) := (HI3.out.hi.hr.c 12).trans (congrArg some HI3.out.hi.as_)
  clear b3 c17
  go_wp2_with fail
  refine (slot_any L LM 0 (by omega) n S t HN.out.1 w3 (by have := HI3.out.hi.lad; rw [HI3.out.st.2.2.2.1] at this; exact this)).mono ?_
  rintro e w4 ⟨rfl, b4⟩
  have R4 := Lib.hid (Rg.stable_row b4 R3.out)
  have B4 := Lib.hid (B3.out.trans (b4.mono B3.out.size))
  clear b4 c12
  rw [HN.out.2.2]
  go_wp2_with fail
  go_step3
  exact tickJ HJ.out (.inl rfl) (by kernel_rfl) ⟨R4.out, B4.out, rfl⟩
 case pass0 =>
  intro a wa hja
  obtain ⟨-, z, rfl, hr, hb, hi⟩ := (HJ.out 0 a wa).1 hja
  have HR := Lib.hid (And.intro hr hb)
  have l2 := rstDg wa w.heap.size #[.int .i64 0, .int .i64 0, .int .i64 0, .int .i64 0, .slice none 0 0] (by rw [hr]; rfl) rfl (dg_all _ _ _ _ _ _ _)
  clear hja hr hb hi
  simp only [tickF]
  go_wp2_with fail
  simp only [Exit.jumpM]
  exact bodyPost_ret (results_row2h AgDg rfl _ _ w.heap.size _ rfl (row?_setRow_eq HR.out.1) rfl) rfl ⟨rfl, below_setRow HR.out.2 (Nat.le_refl _) _⟩
 case pass1 =>
  intro a wa hja
  obtain ⟨-, z, rfl, hr, hb, hi⟩ := (HJ.out 1 a wa).1 hja
  exact absurd hi (by decide)
end Go.Proofs.YthjbmggpleliaaaGreatDoor

end
section
namespace Go.Proofs.YthjbmggpleliaaaGreatDoor
open Go Go.RowKit Go.Rw Aes Hdr Vlt Hst
theorem CI.keepN {w w' : World} {N c F Q g bg : Nat} {cc : Array Value} {D RN IL key : List UInt8} {last : Int} {S : Nat → Prop} (h : CI w N c F Q g cc D RN IL key last bg) (m : MutS S w w') (hR : ∀ {x : Nat} {T : TypeId} {d : Array Value}, N ≤ x → (T = 86 ∨ T = 180 ∨ T = 182 ∨ T = 126) → RT w x T d → ¬ S x) (hO : ∀ {v : Value} {l : List UInt8}, OwnB w N v l → ∀ k, v.ownBlock = some k → ¬ S k) : CI w' N c F Q g cc D RN IL key last bg := by
 obtain ⟨v0, d0, o0⟩ := h.dst
 obtain ⟨v1, d1, o1⟩ := h.rnd
 obtain ⟨gr, v2, r2, g2, o2⟩ := h.ownr
 exact ⟨RT.keep m h.row (hR h.nc (.inl rfl) h.row), h.size, ⟨v0, d0, o0.keep m (hO o0)⟩, ⟨v1, d1, o1.keep m (hO o1)⟩, h.addr, h.last_, h.met, h.keys, h.begun, h.fl, RT.keep m h.flr (hR h.nF (.inr (.inl rfl)) h.flr), h.ck, RT.keep m h.ckr (hR h.nQ (.inr (.inr (.inl rfl))) h.ckr), h.times, h.own, ⟨gr, v2, RT.keep m r2 (hR h.ng (.inr (.inr (.inr rfl))) r2), g2, o2.keep m (hO o2)⟩, h.nc, h.nF, h.nQ, h.ng⟩
theorem HI.wired {w w' : World} {N H L M n G gn : Nat} {s s' : HS} {K T R : List UInt8} {S : Int → Bool} {X : Nat → Prop} (h : HI w N H L M s K T R n S) (hg : NumI w Tryz.prog 3 3 G gn) (hMG : M ≠ G) (hr' : HR w' H s') (m : MutS X w w') (hX : ∀ x, X x → x = H ∨ x = G ∨ x < N) (e1 : s'.secret = s.secret) (e2 : s'.tape = s.tape) (e3 : s'.reset = s.reset) (e4 : s'.asks = s.asks) (e5 : s'.role = s.role) : HI w' N H L M s' K T R n S := by
 have hn := h.lad.neH h.hr
 have own : ∀ {v : Value} {l : List UInt8}, OwnB w N v l → OwnB w' N v l := fun ho => ho.keep m fun k e hx => by
  rcases hX k hx with e' | e' | e'
  ·exact OwnB.ne ho h.hr k e e'
  ·exact own_neNum ho hg k e e'
  ·have := (ho.lt k e).1; omega
 have hLG : L ≠ G := by
  rintro rfl
  obtain ⟨_, hh⟩ := row?_some h.lad.1
  obtain ⟨D, es, cl, hb, _⟩ := hg
  rw [hh] at hb; cases hb
 refine ⟨hr', ?_, ?_, ?_, e4.trans h.as_, ?_, h.nH, h.nL, h.nM⟩
 ·rw [e1]; exact own h.hk
 ·rw [e2]; exact own h.ht
 ·rw [e3]; exact own h.hx
 ·rw [e5]
  refine h.lad.keep m (fun hx => ?_) (fun hx => ?_)
  ·have := h.nL
   rcases hX _ hx with e | e | e
   ·exact hn.1 e
   ·exact hLG e
   ·omega
  ·have := h.nM
   rcases hX _ hx with e | e | e
   ·exact hn.2 e
   ·exact hMG e
   ·omega
section
variable {w w' : World} {N H L LM KN G c F Q g : Nat} {s : HS} {cc : Array Value} {K T R D RN IL key : List UInt8} {n gn bg : Nat} {last : Int} {S : Int → Bool}
theorem Cl.lt (h : Cl w N H L LM KN G c F Q g s cc K T R D RN IL key n gn bg last S) : N ≤ w.heap.size ∧ H < w.heap.size ∧ c < w.heap.size ∧ G < w.heap.size ∧ KN < w.heap.size :=
 ⟨Nat.le_trans h.hi.nH (Nat.le_of_lt h.hi.hr.lt), h.hi.hr.lt, h.ci.row.lt, h.wn.2.lt, h.kn.2.lt⟩
theorem Cl.turn (a : Bool) (i : Nat) (h : Cl w N H L LM KN G c F Q g s cc K T R D RN IL key n gn bg last S) (hr : HR w' H { s with turn := a, ids := i }) (m : MutS (fun k => k = H) w w') : Cl w' N H L LM KN G c F Q g { s with turn := a, ids := i } cc K T R D RN IL key n gn bg last S :=
 ⟨h.hi.turn hr m rfl rfl rfl rfl rfl, h.ci.keepH h.hi.hr m, h.st, ⟨h.kn.1, m.setI h.kn.2 (fun e => RT.neSet h.hi.hr h.kn.2 e.symm)⟩, ⟨h.wn.1, m.numI h.wn.2 (fun e => RT.neNum h.hi.hr h.wn.2 e.symm)⟩, h.ln, h.ne⟩
theorem Cl.conn {cc' : Array Value} {bg' : Nat} (h : Cl w N H L LM KN G c F Q g s cc K T R D RN IL key n gn bg last S) (hc : CI w' N c F Q g cc' D RN IL key last bg') (m : MutS (fun k => k = c) w w') : Cl w' N H L LM KN G c F Q g s cc' K T R D RN IL key n gn bg' last S :=
 ⟨h.hi.keepC h.ci.row h.ci.size m, hc, h.st, ⟨h.kn.1, m.setI h.kn.2 (fun e => RT.neSet h.ci.row h.kn.2 e.symm)⟩, ⟨h.wn.1, m.numI h.wn.2 (fun e => RT.neNum h.ci.row h.wn.2 e.symm)⟩, h.ln, h.ne⟩
theorem Cl.keepD {d : Nat} {dd : Array Value} (h : Cl w N H L LM KN G c F Q g s cc K T R D RN IL key n gn bg last S) (hd : RT w d 39 dd) (h5 : dd.size = 5) (m : MutS (fun k => k = d) w w') : Cl w' N H L LM KN G c F Q g s cc K T R D RN IL key n gn bg last S := by
 have hL : L ≠ d := by
  rintro rfl
  have := h.hi.lad.1.symm.trans hd.row
  injection this with this
  have := congrArg Array.size this
  rw [h5] at this
  simp at this
 exact ⟨⟨h.hi.hr.keep m (RT.ne h.hi.hr hd (by decide)), h.hi.hk.keep m (own_ne h.hi.hk hd (by decide)), h.hi.ht.keep m (own_ne h.hi.ht hd (by decide)), h.hi.hx.keep m (own_ne h.hi.hx hd (by decide)), h.hi.as_, h.hi.lad.keep m hL (fun e => RT.neSet hd h.hi.lad.2 e.symm), h.hi.nH, h.hi.nL, h.hi.nM⟩, h.ci.keep m (fun hT hx e => RT.ne hx hd (by rcases hT with rfl | rfl | rfl | rfl <;> decide) e) (fun ho k e => own_ne ho hd (by decide) k e), h.st, ⟨h.kn.1, m.setI h.kn.2 (fun e => RT.neSet hd h.kn.2 e.symm)⟩, ⟨h.wn.1, m.numI h.wn.2 (fun e => RT.neNum hd h.wn.2 e.symm)⟩, h.ln, h.ne⟩
theorem Cl.wired (a : Bool) (i : Nat) {gn' : Nat} {X : Nat → Prop} (h : Cl w N H L LM KN G c F Q g s cc K T R D RN IL key n gn bg last S) (hr : HR w' H { s with turn := a, ids := i }) (hg : NumI w' Tryz.prog 3 3 G gn') (m : MutS X w w') (hX : ∀ x, X x → x = H ∨ x = G ∨ x < N) : Cl w' N H L LM KN G c F Q g { s with turn := a, ids := i } cc K T R D RN IL key n gn' bg last S := by
 obtain ⟨q1, q2, q3, q4, q5⟩ := h.ne
 refine ⟨h.hi.wired h.wn.2 q3 hr m hX rfl rfl rfl rfl rfl, h.ci.keepN m (fun {x T d} hN hT hx hX' => ?_) (fun {v l} ho k e hX' => ?_), h.st, ⟨h.kn.1, m.setI h.kn.2 (fun hX' => ?_)⟩, ⟨h.wn.1, hg⟩, h.ln, h.ne⟩
 ·rcases hX _ hX' with e | e | e
  ·exact RT.ne hx h.hi.hr (by rcases hT with rfl | rfl | rfl | rfl <;> decide) e
  ·exact RT.neNum hx h.wn.2 e
  ·omega
 ·rcases hX _ hX' with e' | e' | e'
  ·exact OwnB.ne ho h.hi.hr k e e'
  ·exact own_neNum ho h.wn.2 k e e'
  ·have := (ho.lt k e).1; omega
 ·rcases hX _ hX' with e | e | e
  ·exact RT.neSet h.hi.hr h.kn.2 e.symm
  ·exact q1 e
  ·omega
end
attribute [local go_sem ↓] ldDg stDg alDg bdDg alDu
attribute [local go_sem] rldDg rstDg ralDg ralDu build39 build390 dg_all setRow_alloc_at setRow_alloc_past setRow_drew
set_option maxRecDepth 100000 in
set_option maxHeartbeats 4000000 in
theorem tick_yes (N H L LM KN G c F Q g : Nat) (s : HS) (cc : Array Value) (K T R D RN IL key : List UInt8) (n gn bg : Nat) (hgn : gn ≤ 100000) (hbg : bg ≤ 1000) (hids : s.ids ≤ 100000) (last : Int) (S : Int → Bool) (t : Int) (ht : 0 ≤ t ∧ t ≤ 1000000) (hla : last ≤ t ∧ t - last < 600 ∧ 0 ≤ last) (hsl : slotB (0 : Nat) S t = true) (TB KM k lt : Nat) (lo : List UInt8) (w : World) (hi : Cl w N H L LM KN G c F Q g s cc K T R D RN IL key n gn bg last S)
  (htb : s.ideal = true → s.table = .pointer (some ⟨TB, 0, none⟩) ∧ TbI w N TB KM k lo lt ∧ lt ≤ 1000 ∧ k ≤ 10000 ∧ lo.length ≤ 1000000) :
  Calls Tryz.prog 10 #[.pointer (some ⟨H, 0, none⟩), .int .i64 t] w fun e w' => ∃ id_ v l, e = .returned (.tuple #[.agg (dgA id_ t 0 1 v), .bool true]) ∧ l.length = 256 ∧ OwnB w' w.heap.size v l ∧ Cl w' N H L LM KN G c F Q g { s with turn := false, ids := s.ids + 1 } ((cc.setIfInBounds 6 (.bool false)).setIfInBounds 276 (.int .u64 ((bg + 1 : Nat)))) K T R D RN IL key n (gn + 1) (bg + 1) last S ∧ (s.ideal = true → TbI w' N TB KM (k + 1) (lo.drop 256) (lt + 1)) ∧ MutS (fun x => x = H ∨ x = c ∨ x = G ∨ (s.ideal = true ∧ (x = TB ∨ x = KM))) w w' := by
 have hlt := hi.lt
 have b0 : Below w.heap.size w (w.alloc (.cells #[.int .i64 0, .int .i64 0, .int .i64 0, .int .i64 0, .slice none 0 0] 39)) := (Below.refl _ _).alloc (Nat.le_refl _) _
 have R0 := Lib.hid (show RT (w.alloc (.cells #[.int .i64 0, .int .i64 0, .int .i64 0, .int .i64 0, .slice none 0 0] 39)) w.heap.size 39 #[.int .i64 0, .int .i64 0, .int .i64 0, .int .i64 0, .slice none 0 0] from RT.new w _ _ _ rfl)
 have HI0 := Lib.hid (hi.below b0)
 have B0 := Lib.hid b0
 have HT := Lib.hid htb
 have HN := Lib.hid (And.intro ht (And.intro hla (And.intro hsl (And.intro hgn (And.intro hbg (And.intro hids hlt))))))
 clear hi b0 ht hla hsl hgn hbg hids htb hlt
 go_enter Tryz.func10, Tryz.ntmps10
 go_wp2_with fail
 go_step3
 generalize (w.alloc (.cells #[.int .i64 0, .int .i64 0, .int .i64 0, .int .i64 0, .slice none 0 0] 39)) = w0 at *
 have b1 : Below w0.heap.size w0 (w0.alloc (.cells #[.int .i64 0, .slice none 0 0] 92)) := (Below.refl _ _).alloc (Nat.le_refl _) _
 have R1 := Lib.hid (RT.below R0.out b1)
 have HI1 := Lib.hid (HI0.out.below b1)
 have B1 := Lib.hid (B0.out.trans (b1.mono B0.out.size))
 clear b1
 go_wp2_with fail
 generalize (w0.alloc (.cells #[.int .i64 0, .slice none 0 0] 92)) = w1 at *
 refine (idle_one H c s t last (by have := HN.out; omega) w1 HI1.out.hi.hr HI1.out.st.1 HI1.out.st.2.1 HI1.out.st.2.2.1 ((row?_cell HI1.out.ci.row.row 5).trans HI1.out.ci.last_)).mono ?_
 rintro e w2 ⟨rfl, b2⟩
 have R2 := Lib.hid (RT.below R1.out b2)
 have HI2 := Lib.hid (HI1.out.below b2)
 have B2 := Lib.hid (B1.out.trans (b2.mono B1.out.size))
 have c17 : w2.cell? ⟨H, 17, none⟩ = some (.pointer (some ⟨c, 0, none⟩)) := (HI2.out.hi.hr.c 17).trans (congrArg some HI2.out.st.1)
 clear b2
 go_wp2_with fail
 refine (losses_none c F Q t w2 ((row?_cell HI2.out.ci.row.row 279).trans HI2.out.ci.fl) ((row?_cell HI2.out.ci.row.row 280).trans HI2.out.ci.ck) ((row?_cell HI2.out.ci.row.row 281).trans HI2.out.ci.times) HI2.out.ci.flr.row HI2.out.ci.ckr.row).mono ?_
 rintro e w3 ⟨rfl, b3⟩
 have R3 := Lib.hid (RT.below R2.out b3)
 have HI3 := Lib.hid (HI2.out.below b3)
 have B3 := Lib.hid (B2.out.trans (b3.mono B2.out.size))
 have c12 : w3.cell? ⟨H, 12, none⟩ = some (.pointer (some ⟨L, 0, none⟩)) := (HI3.out.hi.hr.c 12).trans (congrArg some HI3.out.hi.as_)
 clear b3 c17
 go_wp2_with fail
 refine (slot_any L LM 0 (by omega) n S t HN.out.1 w3 (by have := HI3.out.hi.lad; rw [HI3.out.st.2.2.2.1] at this; exact this)).mono ?_
 rintro e w4 ⟨rfl, b4⟩
 have R4 := Lib.hid (RT.below R3.out b4)
 have HI4 := Lib.hid (HI3.out.below b4)
 have B4 := Lib.hid (B3.out.trans (b4.mono B3.out.size))
 clear b4 c12
 rw [HN.out.2.2.1]
 go_wp2_with fail
 refine (conns_one H c s w4 HI4.out.hi.hr HI4.out.st.1 HI4.out.st.2.1).mono ?_
 rintro e w5 ⟨rfl, hr5, b5, z5⟩
 have R5 := Lib.hid (RT.below R4.out b5)
 have HI5 := Lib.hid (HI4.out.below b5)
 have B5 := Lib.hid (B4.out.trans (b5.mono B4.out.size))
 clear b5 hr5 z5
 go_wp2_with fail
 refine (pick_one H c s w5 HI5.out.hi.hr HI5.out.st.1 HI5.out.st.2.1 HI5.out.st.2.2.1).mono ?_
 rintro e w6 ⟨rfl, hr6, m6⟩
 have R6 := Lib.hid (RT.keep m6 R5.out (fun e => by have := HN.out; omega))
 have HI6 := Lib.hid (HI5.out.turn false s.ids hr6 m6)
 have M6 := Lib.hid (show MutS (fun x => x = H ∨ x = c) w w6 from (MutS.of_below B5.out).trans (m6.mono fun x e => .inl (.inl e)))
 have c2 : w6.cell? ⟨c, 2, none⟩ = some (.int .i64 1) := (row?_cell HI6.out.ci.row.row 2).trans HI6.out.ci.addr
 clear hr6 m6
 go_wp2_with fail
 refine (may_client H KN _ 1 0 w6 HI6.out.hi.hr HI6.out.st.2.2.2.1 HI6.out.kn.1 HI6.out.kn.2 (by omega)).mono ?_
 rintro e w7 ⟨rfl, b7⟩
 have R7 := Lib.hid (RT.below R6.out b7)
 have HI7 := Lib.hid (HI6.out.below b7)
 have M7 := Lib.hid (M6.out.below' b7)
 have C := Lib.hid (show RT w7 c 86 cc from HI7.out.ci.row)
 have M := Lib.hid (MutS.refl (fun k => k = c) w7)
 clear b7 c2
 go_upto_region 14 with (first
  |((with_reducible refine hold_store ?_); refine Rw.Held.mk ?_; refine wp_setRT (v := .bool false) (i := 6) rfl _ _ _ rfl rfl rfl C M (.inl rfl) (by rw [HI7.out.ci.size]; omega) (by kernel_rfl) rfl rfl ?_; intro w8 C M _))
 have HI8 := Lib.hid (HI7.out.conn (HI7.out.ci.put 6 (.bool false) (.inr rfl) C.out M.out) M.out)
 have R8 := Lib.hid (RT.keep M.out R7.out (fun e => by have := HN.out; omega))
 have M8 := Lib.hid (M7.out.trans (M.out.mono fun x e => .inl (.inr e)))
 have c7 : w8.cell? ⟨c, 7, none⟩ = some (.bool false) := (row?_cell HI8.out.ci.row.row 7).trans HI8.out.ci.met
 clear M C
 go_wp2_with fail
 refine (early_client H c F Q g N bg HN.out.2.2.2.2.1 _ _ D RN IL key last HI8.out.ln.1 HI8.out.ln.2.1 HI8.out.ln.2.2.1 HI8.out.ln.2.2.2 HI8.out.st.2.2.2.1 HI8.out.st.2.2.1 w8 HI8.out.hi.hr HI8.out.ci).mono ?_
 rintro e w9 ⟨⟨v9, l9, rfl, hl9, o9⟩, ci9, m9⟩
 have HI9 := Lib.hid (HI8.out.conn ci9 m9)
 have R9 := Lib.hid (RT.keep m9 R8.out (fun e => by have := HN.out; omega))
 have M9 := Lib.hid (M8.out.trans (m9.mono fun x e => .inl (.inr e)))
 have O9 := Lib.hid (And.intro hl9 (own_lower o9 M8.out.size))
 obtain ⟨a9, p9, rfl, -⟩ := id (Own.sl o9)
 have c15 : w9.cell? ⟨H, 15, none⟩ = some (.bool false) := (HI9.out.hi.hr.c 15).trans (congrArg (fun b => some (Value.bool b)) HI9.out.st.2.2.1)
 have c2 : w9.cell? ⟨c, 2, none⟩ = some (.int .i64 1) := (row?_cell HI9.out.ci.row.row 2).trans HI9.out.ci.addr
 clear ci9 m9 hl9 o9 c7
 go_wp2_with fail
 have hTK : s.ideal = true → TB < N ∧ KM < N := fun h => by have := (HT.out h).2.1.lo; omega
 refine (wire_any H G gn HN.out.2.2.2.1 { s with turn := false, ids := s.ids } t 1 (by omega) (by rw [HI9.out.st.2.2.2.1]; omega) HN.out.2.2.2.2.2.1 w.heap.size N TB KM k lt lo l9 O9.out.1 _ w9 HI9.out.hi.hr HI9.out.wn.1 HI9.out.wn.2 O9.out.2 M9.out.size (fun _ => ⟨HI9.out.hi.nH, HI9.out.ne.2.2.2.1, HN.out.2.2.2.2.2.2.1⟩) (fun h => by
  obtain ⟨q1, q2, q3, q4, q5⟩ := HT.out h
  exact ⟨q1, q2.keep M9.out (fun x hx e => by have := HI9.out.hi.nH; have := HI9.out.ci.nc; omega), q3, q4, q5⟩)).mono ?_
 rintro e w10 ⟨id_, v', l', he, hl', o', hr', hG', tb', m'⟩
 have he2 : e = .returned (.agg (dgA id_ t 0 1 v')) := he.trans (congrArg (fun a => Ending.returned (Value.agg (dgA id_ t a 1 v'))) HI9.out.st.2.2.2.2.1)
 subst he2
 have m2 : MutS (fun x => x = H ∨ x = G ∨ (s.ideal = true ∧ (x = TB ∨ x = KM))) w9 w10 := m'
 have HI10 := Lib.hid (HI9.out.wired false (s.ids + 1) hr' hG' m2 (fun x e => by
  rcases e with e | e | ⟨h, e⟩
  ·exact .inl e
  ·exact .inr (.inl e)
  ·have := hTK h; right; right; omega))
 have R10 := RT.keep m2 R9.out (fun e => by
  have hlt := HN.out.2.2.2.2.2.2
  rcases e with e | e | ⟨h, e⟩
  ·omega
  ·omega
  ·have := hTK h; omega)
 have H10 := Lib.hid (And.intro hl' (And.intro o' (And.intro tb' (And.intro R10 (show MutS (fun x => x = H ∨ x = c ∨ x = G ∨ (s.ideal = true ∧ (x = TB ∨ x = KM))) w w10 from (M9.out.mono fun x e => .inl (e.imp id .inl)).trans (m2.mono fun x e => .inl (e.imp id .inr)))))))
 obtain ⟨a10, p10, rfl, -⟩ := id (OwnB.sl o')
 have l2 := rstDg w10 w.heap.size (dgA id_ t 0 1 (.slice a10 l'.length p10)) (by rw [R10.row]; rfl) rfl (dg_all _ _ _ _ _ _ _)
 clear he hl' o' hr' hG' tb' m' m2 R10 hTK c15 c2
 go_wp2_with fail
 rw [Exit.noGoto_ret]
 have m11 : MutS (fun x => x = w.heap.size) w10 (w10.setRow w.heap.size (dgA id_ t 0 1 (.slice a10 l'.length p10))) := (MutS.refl (fun x => x = w.heap.size) w10).setRow _ _ (.inl rfl)
 have HI11 := Lib.hid (HI10.out.keepD H10.out.2.2.2.1 rfl m11)
 refine bodyPost_ret (results_row2h AgDg rfl _ _ w.heap.size _ rfl (row?_setRow_eq H10.out.2.2.2.1.row) rfl) rfl ⟨id_, _, l', rfl, H10.out.1, OwnB.keep m11 H10.out.2.1 (fun q e h => own_ne H10.out.2.1 H10.out.2.2.2.1 (by decide) q e h), HI11.out, fun h => (H10.out.2.2.1 h).keep m11 (fun x hx e => by have := HN.out; omega), H10.out.2.2.2.2.setRow _ _ (.inr (Nat.le_refl _))⟩
end Go.Proofs.YthjbmggpleliaaaGreatDoor

end
section
namespace Go.Rw
open Go Go.RowKit Go.Maps
theorem SetI.of {P : Program} {k : TypeId} {b : Nat} {w : World} {clock : Nat} (h : w.heap[b]? = some (.map #[] clock)) : SetI w P k b 0 (fun _ => false) := ⟨_, ⟨#[], clock, h, ⟨by simp, MapKept.stamped_empty clock, by simp⟩, Nat.le_refl _, rfl⟩, fun _ => rfl⟩
theorem NumI.of {P : Program} {k e : TypeId} {b : Nat} {w : World} {clock : Nat} (h : w.heap[b]? = some (.map #[] clock)) : NumI w P k e b 0 := ⟨_, #[], clock, h, ⟨by simp, MapKept.stamped_empty clock, by simp⟩, Nat.le_refl _, rfl⟩
end Go.Rw
namespace Go.Proofs.YthjbmggpleliaaaGreatDoor
open Go Go.RowKit Go.Rw Aes Hdr Vlt Hst
structure Ba (w : World) (N H L LM KN G : Nat) (s : HS) (K T R : List UInt8) (n : Nat) (S : Int → Bool) : Prop where
 hi : HI w N H L LM s K T R n S
 st : s.cur = .pointer none ∧ s.begun = .slice none 0 0 ∧ s.closing = false ∧ s.dues = .slice none 0 0 ∧ s.used = false ∧ s.acc = false
 nb : s.at_ = 32 ∧ s.made = 0 ∧ s.born = 0 ∧ s.ids = 0 ∧ R.length = 32 ∧ K.length ≤ 64 ∧ T.length ≤ 1000
 kn : s.known = .map (some KN) ∧ SetI w Tryz.prog 3 KN 0 (fun _ => false)
 wn : s.went = .map (some G) ∧ NumI w Tryz.prog 3 3 G 0
 inb : ∃ q, s.inbox = .map (some q) ∧ w.heap[q]? = some (.map #[] 0) ∧ q ≠ LM
 ne : KN ≠ G ∧ LM ≠ KN ∧ LM ≠ G ∧ N ≤ G ∧ N ≤ KN
theorem Ba.below {w w' : World} {N H L LM KN G : Nat} {s : HS} {K T R : List UInt8} {n : Nat} {S : Int → Bool} (h : Ba w N H L LM KN G s K T R n S) (hb : Below w.heap.size w w') : Ba w' N H L LM KN G s K T R n S := by
 obtain ⟨q, q1, q2, q3⟩ := h.inb
 exact ⟨h.hi.below hb, h.st, h.nb, ⟨h.kn.1, h.kn.2.below hb⟩, ⟨h.wn.1, h.wn.2.below hb⟩, ⟨q, q1, (hb.block q (Array.getElem?_eq_some_iff.1 q2).1).trans q2, q3⟩, h.ne⟩
theorem Ba.asked {w w' : World} {N H L LM KN G : Nat} {s : HS} {K T R : List UInt8} {n n' : Nat} {S S' : Int → Bool} (h : Ba w N H L LM KN G s K T R n S) (hi' : HI w' N H L LM s K T R n' S') (m : MutS (fun k => k = LM) w w') : Ba w' N H L LM KN G s K T R n' S' := by
 obtain ⟨q, q1, q2, q3⟩ := h.inb
 obtain ⟨n1, n2, n3, n4, n5⟩ := h.ne
 exact ⟨hi', h.st, h.nb, ⟨h.kn.1, m.setI h.kn.2 (fun e => n2 e.symm)⟩, ⟨h.wn.1, m.numI h.wn.2 (fun e => n3 e.symm)⟩, ⟨q, q1, (m.block q (Array.getElem?_eq_some_iff.1 q2).1 q3).trans q2, q3⟩, h.ne⟩
theorem Cl.asked {w w' : World} {N H L LM KN G c F Q g : Nat} {s : HS} {cc : Array Value} {K T R D RN IL key : List UInt8} {n n' gn bg : Nat} {last : Int} {S S' : Int → Bool} (h : Cl w N H L LM KN G c F Q g s cc K T R D RN IL key n gn bg last S) (hi' : HI w' N H L LM s K T R n' S') (m : MutS (fun k => k = LM) w w') : Cl w' N H L LM KN G c F Q g s cc K T R D RN IL key n' gn bg last S' := by
 obtain ⟨n1, n2, n3, n4, n5⟩ := h.ne
 exact ⟨hi', h.ci.keep m (fun _ hx => RT.neSet hx h.hi.lad.2) (fun ho => own_neSet ho h.hi.lad.2), h.st, ⟨h.kn.1, m.setI h.kn.2 (fun e => n2 e.symm)⟩, ⟨h.wn.1, m.numI h.wn.2 (fun e => n3 e.symm)⟩, h.ln, h.ne⟩
theorem hnew_ba (r : Nat) (hro : r ≤ 1) (sv tv ov : Value) (tp : Option Addr) (ideal : Bool) (KS TS : List UInt8) (hK : 1 ≤ KS.length ∧ KS.length ≤ 64) (hT : TS.length ≤ 300) (w : World) (hs : Sl w sv KS) (ht : Sl w tv TS)
  (hid : ideal = true → tp ≠ none) (ho : ∃ a n c, ov = .slice a n c) :
  Calls Tryz.prog 15 #[.int .i64 (r : Nat), .agg #[sv, .bool ideal, tv, ov], .pointer tp] w fun e w' => ∃ H L M KN G s R, e = .returned (.pointer (some ⟨H, 0, none⟩)) ∧ Ba w' w.heap.size H L M KN G s KS TS R 0 (fun _ => false) ∧ s.role = r ∧ s.addr = (r : Nat) ∧ s.ideal = ideal ∧ s.table = .pointer tp ∧ Below w.heap.size w w' :=
 (hnew_some r hro sv tv ov tp ideal KS TS hK hT w hs ht hid ho).mono (by
  rintro e w' ⟨H, L, M, s, R, rfl, hi, e1, e2, e3, e4, e5, e6, e7, e8, -, e10, e11, ⟨m, hm, hMm, hs, hmaps⟩, hb⟩
  have b : ∀ {α : Type} (f : HS → α), f s = f (s.bare m) := fun f => congrArg f hs
  refine ⟨H, L, M, m + 2, m + 4, s, R, rfl, ⟨hi, ⟨b HS.cur, b HS.begun, b HS.closing, b HS.dues, b HS.used, e10⟩, ⟨e6, e7, e11, e8, e5, hK.2, by omega⟩, ⟨b HS.known, SetI.of (hmaps 2 (by omega))⟩, ⟨b HS.went, NumI.of (hmaps 4 (by omega))⟩, ⟨m + 1, b HS.inbox, hmaps 1 (by omega), by omega⟩, by omega⟩, e1, e2, e3, e4, hb⟩)
theorem connect_cl (N H L LM KN G : Nat) (s : HS) (K T R : List UInt8) (n : Nat) (hn : n ≤ 1000000) (S : Int → Bool) (t : Int) (ht : 0 ≤ t ∧ t ≤ 1000000) (hro : s.role = 0) (had : s.addr = 0) (hN : 3 ≤ N) (w : World) (hb : Ba w N H L LM KN G s K T R n S) (hg : Glob w) :
  Calls Tryz.prog 8 #[.pointer (some ⟨H, 0, none⟩), .int .i64 t] w fun e w' => ∃ c F Q g cc RN IL D key s', e = .returned (.int .i64 0) ∧ Cl w' N H L LM KN G c F Q g s' cc K T R D RN IL key (n + 1) 0 0 t (fun y => y == t || S y) ∧ s'.table = s.table ∧ s'.ideal = s.ideal ∧ s'.ids = 0 ∧ w.heap.size ≤ c ∧ MutS (fun k => k = H ∨ k = LM) w w' :=
 (connect_first H L LM N n s K T R S t ht hn hro hb.st.2.2.2.2.1 hb.nb.2.2.2.2.2.1 hb.nb.2.2.2.2.2.2 (by have := hb.nb; omega) (by have := hb.nb; omega) (by have := hb.nb; omega) hb.nb.2.2.2.2.1 hb.st.2.1 had w hb.hi hg hN).mono (by
  rintro e w' ⟨c, F, Q, g, cc, RN, IL, D, key, s', rfl, hci, hD, hRN, hIL, hkey, hi', hcur, hbeg, hused, hcl, hrole, hkn, -, hwn, htab, hide, hids, hadr, -, -, -, hcw, -, -, -, m⟩
  obtain ⟨n1, n2, n3, n4, n5⟩ := hb.ne
  have h1 : ¬ (KN = H ∨ KN = LM) := fun e => e.elim (fun e => RT.neSet hb.hi.hr hb.kn.2 e.symm) (fun e => n2 e.symm)
  have h2 : ¬ (G = H ∨ G = LM) := fun e => e.elim (fun e => RT.neNum hb.hi.hr hb.wn.2 e.symm) (fun e => n3 e.symm)
  exact ⟨c, F, Q, g, cc, RN, IL, D, key, s', rfl, ⟨hi', hci, ⟨hcur, hbeg, hcl.trans hb.st.2.2.1, hrole, hadr, hused⟩, ⟨hkn.trans hb.kn.1, m.setI hb.kn.2 h1⟩, ⟨hwn.trans hb.wn.1, m.numI hb.wn.2 h2⟩, ⟨hD, hRN, hIL, hkey⟩, hb.ne⟩, htab, hide, hids.trans hb.nb.2.2.2.1, hcw, m⟩)
theorem Ba.un {w : World} {N H L LM KN G : Nat} {s : HS} {K T R : List UInt8} {n : Nat} {S : Int → Bool} (h : Ba w N H L LM KN G s K T R n S) : Unready w s := .inl h.st.1
theorem Cl.un {w : World} {N H L LM KN G c F Q g : Nat} {s : HS} {cc : Array Value} {K T R D RN IL key : List UInt8} {n gn bg : Nat} {last : Int} {S : Int → Bool} (h : Cl w N H L LM KN G c F Q g s cc K T R D RN IL key n gn bg last S) : Unready w s := .inr ⟨c, cc, h.st.1, h.ci.row, h.ci.met⟩
end Go.Proofs.YthjbmggpleliaaaGreatDoor

end
section
namespace Go.Proofs.YthjbmggpleliaaaGreatDoor
open Go Go.RowKit Go.Rw Aes Hdr Vlt Hst
def buildCf (ps : Array (Nat × Value)) : Sem Value := Instr.build 24 ps
theorem bdCf (ps : Array (Nat × Value)) : Instr.build 24 ps = buildCf ps := rfl
theorem buildCf1 (a : Option Addr) (n c : Nat) (w : World) : (buildCf #[(0, .slice a n c)]).run Tryz.prog w = .ok (.agg #[.slice a n c, .bool false, .slice none 0 0, .slice none 0 0]) w := Go.run_build w _ _ _ (by kernel_rfl)
def buildMs (ps : Array (Nat × Value)) : Sem Value := Instr.build 37 ps
theorem bdMs (ps : Array (Nat × Value)) : Instr.build 37 ps = buildMs ps := rfl
theorem buildMs0 (w : World) : (buildMs #[]).run Tryz.prog w = .ok (.agg #[.slice none 0 0, .slice none 0 0]) w := Go.run_build w _ _ _ (by kernel_rfl)
theorem stMs (x y : Value) : Instr.storeAt 37 x y = storeAgg 37 x y := rfl
theorem alMs : Instr.alloc 37 true (.tuple #[]) = allocAgg 37 := rfl
theorem rstMs (w : World) (b : Nat) (c' : Array Value) (h : (row? w b).map (·.size) = some 2) (hn : c'.size = 2) (h1 : allOne c' = true) : (storeAgg 37 (.pointer (some ⟨b, 0, none⟩)) (.agg c')).run Tryz.prog w = .ok () (w.setRow b c') := store_rule AgMs w b c' h hn h1
theorem ralMs (w : World) : (allocAgg 37).run Tryz.prog w = .ok (.pointer (some ⟨w.heap.size, 0, none⟩)) (w.alloc (.cells #[.slice none 0 0, .slice none 0 0] 37)) := alloc_rule (n := 2) (by kernel_rfl) w
theorem ms_all (a b : Option Addr) (n m c d : Nat) : allOne #[.slice a n c, .slice b m d] = true := by simp [allOne, Value.oneCell']
theorem lowS {S : Nat → Prop} {w a b : World} (h : Below w.heap.size w a) (m : MutS S a b) (hS : ∀ k, S k → w.heap.size ≤ k) : Below w.heap.size w b := h.trans (m.lower hS h.size)
attribute [local go_sem ↓] ldDg stDg alDg bdDg bdCf bdMs stMs alMs
attribute [local go_sem] rldDg rstDg ralDg build39 build390 dg_all buildCf1 buildMs0 rstMs ralMs ms_all setRow_alloc_at setRow_alloc_past setRow_drew
set_option maxRecDepth 100000 in
set_option maxHeartbeats 4000000 in
theorem awake25 (w : World) (hg : Glob w) :
  Calls Tryz.prog 5 #[] w fun e w' => e = .returned (.bool true) ∧ Below w.heap.size w w' := by
 have hcv := fun (w : World) (C : Array Value) (n c : Nat) => Lib.run_convert_bytes_const (P := Tryz.prog) w 22 5 C n c Tryz.underlying22 Tryz.underlying5
 have HG := Lib.hid hg
 clear hg
 go_enter Tryz.func5, Tryz.ntmps5
 go_wp2_with fail
 have hsl : Sl (w.alloc (.cells #[.int .u8 107] 5 (1, 2))) (.slice (some ⟨w.heap.size, 0, none⟩) 1 1) [107] := by
  refine ⟨_, 1, rfl, by decide, fun h => (by cases h), fun _ => ⟨w.heap.size, 0, rfl, fun k hk => ?_⟩⟩
  rw [cell_of_row _ _ _ _ _ _ (heap_alloc_new w _)]
  match k, hk with
  | 0, _ => rfl
 have b1 : Below w.heap.size w (w.alloc (.cells #[.int .u8 107] 5 (1, 2))) := (Below.refl _ _).alloc (Nat.le_refl _) _
 have G1 := Lib.hid (HG.out.below b1)
 have B1 := Lib.hid b1
 generalize w.alloc (.cells #[.int .u8 107] 5 (1, 2)) = w1 at *
 clear b1
 refine (hnew_ba 0 (by omega) (.slice (some ⟨w.heap.size, 0, none⟩) 1 1) (.slice none 0 0) (.slice none 0 0) none false [107] [] (by simp) (by simp) w1 hsl (Sl.nil _) (fun h => by cases h) ⟨none, 0, 0, rfl⟩).mono ?_
 rintro e w2 ⟨H, L, LM, KN, G, s, R, rfl, ba2, hro, had, hide, htab, b2⟩
 have hN := G1.out.lt
 have BA2 := Lib.hid ba2
 have G2 := Lib.hid (G1.out.below b2)
 have B2 := Lib.hid (B1.out.trans (b2.mono B1.out.size))
 have HS := Lib.hid (And.intro hro (And.intro had (And.intro hide (And.intro htab hN))))
 clear ba2 b2 hro had hide htab hsl hN
 go_wp2_with fail
 refine (submit_state H L LM w1.heap.size 0 s [107] [] R _ 0 (by omega) (by omega) 256 (.inl rfl) [] (by simp) (.slice none 0 0) w2 BA2.out.hi (Sl.nil _) G2.out HS.out.2.2.2.2 BA2.out.un (fun b off n cap e h => by cases e)).mono ?_
 rintro e w3 ⟨rfl, hi3, m3⟩
 have BA3 := Lib.hid (BA2.out.asked hi3 m3)
 have G3 := Lib.hid (G2.out.keep m3 (fun k e => by rw [e]; exact Nat.le_trans HS.out.2.2.2.2 BA2.out.hi.nM))
 have HNN := Lib.hid (And.intro B1.out.size (And.intro BA2.out.hi.nH BA2.out.hi.nM))
 have B3 := Lib.hid (lowS B2.out m3 (fun k e => by rw [e]; exact Nat.le_trans HNN.out.1 HNN.out.2.2))
 clear hi3 m3
 go_wp2_with fail
 obtain ⟨q, q1, q2, q3⟩ := BA3.out.inb
 refine (read_empty H q s w3 BA3.out.hi.hr q1 q2).mono ?_
 rintro e w4 ⟨rfl, b4⟩
 have BA4 := Lib.hid (BA3.out.below b4)
 have G4 := Lib.hid (G3.out.below b4)
 have B4 := Lib.hid (B3.out.trans (b4.mono B3.out.size))
 clear b4 q1 q2 q3
 go_wp2_with fail
 have b5 : Below w4.heap.size w4 (w4.alloc (.cells #[.slice none 0 0, .slice none 0 0] 37)) := (Below.refl _ _).alloc (Nat.le_refl _) _
 have BA5 := Lib.hid (BA4.out.below b5)
 have G5 := Lib.hid (G4.out.below b5)
 have B5 := Lib.hid (B4.out.trans (b5.mono B4.out.size))
 clear b5
 generalize (w4.alloc (.cells #[.slice none 0 0, .slice none 0 0] 37)) = w5 at *
 refine (connect_cl w1.heap.size H L LM KN G s [107] [] R 1 (by omega) _ 0 (by omega) HS.out.1 HS.out.2.1 HS.out.2.2.2.2 w5 BA5.out G5.out).mono ?_
 rintro e w6 ⟨c, F, Q, g, cc, RN, IL, D, key, s6, rfl, cl6, htab6, hide6, hids6, hcw6, m6⟩
 have CL6 := Lib.hid cl6
 have G6 := Lib.hid (G5.out.keep m6 (fun k e => by have := HNN.out; have := HS.out.2.2.2.2; omega))
 have B6 := Lib.hid (lowS B5.out m6 (fun k e => by have := HNN.out; omega))
 have H6 := Lib.hid (And.intro hide6 (And.intro hids6 hcw6))
 clear cl6 m6 htab6 hide6 hids6 hcw6
 go_wp2_with fail
 refine (tick_yes w1.heap.size H L LM KN G c F Q g s6 cc [107] [] R D RN IL key 2 0 0 (by omega) (by omega) (by rw [H6.out.2.1]; omega) 0 _ 0 (by omega) (by omega) (by simp [slotB, busyB]) H H 0 0 [] w6 CL6.out (fun h => by rw [H6.out.1, HS.out.2.2.1] at h; cases h)).mono ?_
 rintro e w7 ⟨id_, v7, l7, rfl, hl7, o7, cl7, -, m7⟩
 obtain ⟨a7, p7, hv7, -⟩ := id o7.sl
 rw [hl7] at hv7
 subst hv7
 have CL7 := Lib.hid cl7
 have G7 := Lib.hid (G6.out.keep m7 (fun k e => by have := HNN.out; have := HS.out.2.2.2.2; have := CL6.out.ci.nc; have := CL6.out.ne; omega))
 have B7 := Lib.hid (lowS B6.out m7 (fun k e => by have := HNN.out; have := CL6.out.ci.nc; have := CL6.out.ne; omega))
 have O7 := Lib.hid o7
 clear cl7 m7 o7 hl7
 simp only [dgA]
 go_wp2_with fail
 have b8 : Below w7.heap.size w7 (w7.alloc (.cells #[.int .i64 id_, .int .i64 0, .int .i64 0, .int .i64 1, .slice a7 256 p7] 39)) := (Below.refl _ _).alloc (Nat.le_refl _) _
 have CL8 := Lib.hid (CL7.out.below b8)
 have B8 := Lib.hid (B7.out.trans (b8.mono B7.out.size))
 clear b8
 generalize (w7.alloc (.cells #[.int .i64 id_, .int .i64 0, .int .i64 0, .int .i64 1, .slice a7 256 p7] 39)) = w8 at *
 refine (ready_un H _ w8 CL8.out.hi.hr CL8.out.un).mono ?_
 rintro e w9 ⟨rfl, rfl⟩
 go_wp2_with fail
 refine (connect_again H L LM w1.heap.size 2 _ [107] [] R _ 1 (by omega) (by omega) CL8.out.st.2.2.2.1 CL8.out.st.2.2.2.2.2 w8 CL8.out.hi).mono ?_
 rintro e w9 ⟨rfl, hi9, m9⟩
 have B9 := Lib.hid (lowS B8.out m9 (fun k e => by have := HNN.out; omega))
 clear hi9 m9
 go_wp2_with fail
 refine (hnew_none 2 _ _ _ none false 1 ⟨_, _, rfl⟩ ⟨_, _, _, rfl⟩ ⟨_, _, _, rfl⟩ _ (.inl (by omega))).mono ?_
 rintro e w10 ⟨rfl, b10⟩
 have b9 : Below w9.heap.size w9 (w9.alloc (.cells #[.int .u8 107] 5 (1, 2))) := (Below.refl _ _).alloc (Nat.le_refl _) _
 have B10 := Lib.hid (B9.out.trans ((b9.trans (b10.mono b9.size)).mono B9.out.size))
 clear b9 b10
 go_wp2_with fail
 go_ret
 exact ⟨rfl, B10.out⟩
end Go.Proofs.YthjbmggpleliaaaGreatDoor

end
section
namespace Go.Proofs.YthjbmggpleliaaaGreatDoor
open Go Go.RowKit Go.Rw Aes Hdr Vlt Hst
theorem AgCf : Agg Tryz.prog 24 4 := ⟨⟨_, Tryz.underlying24, rfl⟩, by kernel_rfl⟩
theorem ldCf (x : Value) : Instr.loadAt 24 x = loadAgg 24 x := rfl
theorem rldCf (w : World) (b : Nat) (h : (row? w b).map (·.size) = some 4) : (loadAgg 24 (.pointer (some ⟨b, 0, none⟩))).run Tryz.prog w = .ok (.agg ((row? w b).getD #[])) w := load_rule AgCf w b h
attribute [local go_sem ↓] ldDg stDg alDg bdDg bdCf bdMs stMs alMs ldCf
attribute [local go_sem] rldDg rstDg ralDg build39 build390 dg_all buildCf1 buildMs0 rstMs ralMs ms_all setRow_alloc_at setRow_alloc_past setRow_drew
set_option maxRecDepth 100000 in
set_option maxHeartbeats 4000000 in
theorem mayLaw_any (role : Int) (K T O : List UInt8) (sv tv ov : Value) (ideal table : Bool) (hO : O.length ≤ 1000000 ∨ True) (w : World) (hs : Sl w sv K) (ht : Sl w tv T) (ho : Sl w ov O) (hg : Glob w) :
  Calls Tryz.prog 4 #[.int .i64 role, .agg #[sv, .bool ideal, tv, ov], .bool table] w fun e w' => e = .returned (.bool true) ∧ Below w.heap.size w w' := by
 obtain ⟨sa, sc, rfl, -⟩ := id hs
 obtain ⟨ta, tc, rfl, -⟩ := id ht
 obtain ⟨oa, oc, rfl, -⟩ := id ho
 have al : Below w.heap.size w (w.alloc (.cells #[.slice sa K.length sc, .bool ideal, .slice ta T.length tc, .slice oa O.length oc] 24)) := (Below.refl _ _).alloc (Nat.le_refl _) _
 have R0 := Lib.hid (show row? (w.alloc (.cells #[.slice sa K.length sc, .bool ideal, .slice ta T.length tc, .slice oa O.length oc] 24)) w.heap.size = some #[.slice sa K.length sc, .bool ideal, .slice ta T.length tc, .slice oa O.length oc] from row?_alloc_at _ _ _ _ rfl)
 have HS := Lib.hid (And.intro (hs.below al) (And.intro (ht.below al) (ho.below al)))
 have HG := Lib.hid (hg.below al)
 have B0 := Lib.hid al
 have c0 : (w.alloc (.cells #[.slice sa K.length sc, .bool ideal, .slice ta T.length tc, .slice oa O.length oc] 24)).cell? ⟨w.heap.size, 0, none⟩ = some (.slice sa K.length sc) := row?_cell R0.out 0
 have c2 : (w.alloc (.cells #[.slice sa K.length sc, .bool ideal, .slice ta T.length tc, .slice oa O.length oc] 24)).cell? ⟨w.heap.size, 2, none⟩ = some (.slice ta T.length tc) := row?_cell R0.out 2
 have c3 : (w.alloc (.cells #[.slice sa K.length sc, .bool ideal, .slice ta T.length tc, .slice oa O.length oc] 24)).cell? ⟨w.heap.size, 3, none⟩ = some (.slice oa O.length oc) := row?_cell R0.out 3
 clear hs ht ho hg al hO
 go_enter Tryz.func4, Tryz.ntmps4
 go_upto_region 1 with (fail)
 generalize (w.alloc (.cells #[.slice sa K.length sc, .bool ideal, .slice ta T.length tc, .slice oa O.length oc] 24)) = w0 at *
 by_cases hbig : 100 < K.length ∨ 300 < T.length ∨ 300 < O.length
 case pos =>
  go_cut [30] (fun b wx => b = .bool true ∧ wx = w0)
  case first =>
   by_cases h1 : (100 : Int) < (K.length : Nat)
   ·have p1 : decide ((100 : Int) < (K.length : Nat)) = true := decide_eq_true h1
    clear hbig
    go_wp2_with fail
    go_meet
    exact ⟨rfl, rfl⟩
   have p1 : decide ((100 : Int) < (K.length : Nat)) = false := decide_eq_false h1
   by_cases h2 : (300 : Int) < (T.length : Nat)
   ·have p2 : decide ((300 : Int) < (T.length : Nat)) = true := decide_eq_true h2
    clear hbig
    go_wp2_with fail
    go_meet
    exact ⟨rfl, rfl⟩
   have p2 : decide ((300 : Int) < (T.length : Nat)) = false := decide_eq_false h2
   have h3 : (300 : Int) < (O.length : Nat) := by omega
   have p3 : decide ((300 : Int) < (O.length : Nat)) = true := decide_eq_true h3
   clear hbig
   go_wp2_with fail
   go_meet
   exact ⟨rfl, rfl⟩
  obtain ⟨rfl, rfl⟩ := hcut
  go_wp2_with fail
  refine (awake25 _ HG.out).mono ?_
  rintro e w1 ⟨rfl, b1⟩
  have B1 := Lib.hid (B0.out.trans (b1.mono B0.out.size))
  clear b1
  go_wp2_with fail
  go_ret
  exact ⟨rfl, B1.out⟩
 have HB := Lib.hid hbig
 go_cut [30] (fun b wx => b = .bool false ∧ wx = w0)
 case first =>
  have h1 : ¬ (100 : Int) < (K.length : Nat) := by omega
  have h2 : ¬ (300 : Int) < (T.length : Nat) := by omega
  have h3 : ¬ (300 : Int) < (O.length : Nat) := by omega
  have p1 : decide ((100 : Int) < (K.length : Nat)) = false := decide_eq_false h1
  have p2 : decide ((300 : Int) < (T.length : Nat)) = false := decide_eq_false h2
  have p3 : decide ((300 : Int) < (O.length : Nat)) = false := decide_eq_false h3
  clear hbig
  go_wp2_with fail
  go_meet
  exact ⟨rfl, rfl⟩
 obtain ⟨rfl, rfl⟩ := hcut
 clear hbig
 go_upto_if 32 with (fail)
 go_cut [7] (fun t wx => ∃ tp : Option Addr, t = .pointer tp ∧ (table = true ↔ tp ≠ none) ∧ Below wc.heap.size wc wx)
 case first =>
  cases table
  ·go_wp2_with fail
   go_meet
   exact ⟨none, rfl, by simp, Below.refl _ _⟩
  ·go_wp2_with fail
   refine (newtable2_any O (by have := HB.out; omega) _ wc HS.out.2.2).mono ?_
   rintro e w1 ⟨TB, KM, rfl, -, -, -, b1⟩
   go_wp2_with fail
   go_meet
   exact ⟨_, rfl, by simp, b1⟩
 obtain ⟨tp, rfl, htp, b1⟩ := hcut
 have R1 := Lib.hid (Rg.stable_row b1 R0.out)
 have HS1 := Lib.hid (And.intro (HS.out.1.below b1) (HS.out.2.1.below b1))
 have G1 := Lib.hid (HG.out.below b1)
 have B1 := Lib.hid (B0.out.trans (b1.mono B0.out.size))
 have HTP := Lib.hid htp
 have l1 : (loadAgg 24 (.pointer (some ⟨w.heap.size, 0, none⟩))).run Tryz.prog wc = .ok (.agg #[.slice sa K.length sc, .bool ideal, .slice ta T.length tc, .slice oa O.length oc]) wc := by
  have := rldCf wc w.heap.size (by rw [R1.out]; rfl); rw [R1.out] at this; exact this
 clear c0 c2 c3 R0 HS HG B0
 by_cases hmay : (role = 0 ∨ role = 1) ∧ 1 ≤ K.length ∧ K.length ≤ 64 ∧ (ideal = true → tp ≠ none)
 case neg =>
  have HNO := Lib.hid (show (role ≠ 0 ∧ role ≠ 1) ∨ K.length < 1 ∨ 64 < K.length ∨ (ideal = true ∧ tp = none) by
   rcases Classical.em (role = 0 ∨ role = 1) with h1 | h1
   ·by_cases h2 : 1 ≤ K.length ∧ K.length ≤ 64
    ·right; right; right
     cases ideal
     ·exact absurd ⟨h1, h2.1, h2.2, fun h => by cases h⟩ hmay
     ·refine ⟨rfl, Classical.byContradiction fun h3 => hmay ⟨h1, h2.1, h2.2, fun _ => h3⟩⟩
    ·omega
   ·exact .inl ⟨fun e => h1 (.inl e), fun e => h1 (.inr e)⟩)
  clear hmay htp
  go_wp2_with fail
  refine (hnew_none role _ _ _ tp ideal K.length ⟨_, _, rfl⟩ ⟨_, _, _, rfl⟩ ⟨_, _, _, rfl⟩ wc HNO.out).mono ?_
  rintro e w2 ⟨rfl, b2⟩
  have R2 := Lib.hid (Rg.stable_row b2 R1.out)
  have G2 := Lib.hid (G1.out.below b2)
  have B2 := Lib.hid (B1.out.trans (b2.mono B1.out.size))
  clear b2 l1
  have c0 : w2.cell? ⟨w.heap.size, 0, none⟩ = some (.slice sa K.length sc) := row?_cell R2.out 0
  have c1 : w2.cell? ⟨w.heap.size, 1, none⟩ = some (.bool ideal) := row?_cell R2.out 1
  go_upto_region 7 with (fail)
  go_cut [9] (fun b wx => b = .bool false ∧ wx = w2)
  case first =>
   have htp2 := HTP.out
   by_cases h0 : role = 0
   ·subst h0
    by_cases k1 : (1 : Int) ≤ (K.length : Nat)
    case neg =>
     have p1 : decide ((1 : Int) ≤ (K.length : Nat)) = false := decide_eq_false k1
     clear HNO htp2
     go_wp2_with fail
     go_meet
     exact ⟨rfl, rfl⟩
    have p1 : decide ((1 : Int) ≤ (K.length : Nat)) = true := decide_eq_true k1
    by_cases k2 : ((K.length : Nat) : Int) ≤ 64
    case neg =>
     have p2 : decide (((K.length : Nat) : Int) ≤ 64) = false := decide_eq_false k2
     clear HNO htp2
     go_wp2_with fail
     go_meet
     exact ⟨rfl, rfl⟩
    have p2 : decide (((K.length : Nat) : Int) ≤ 64) = true := decide_eq_true k2
    obtain ⟨rfl, rfl⟩ : ideal = true ∧ table = false := by
     rcases HNO.out with h | h | h | ⟨h, h'⟩
     ·omega
     ·omega
     ·omega
     ·exact ⟨h, by cases table; rfl; exact absurd h' (htp2.1 rfl)⟩
    clear HNO htp2
    go_wp2_with fail
    go_meet
    exact ⟨rfl, rfl⟩
   by_cases h1 : role = 1
   ·subst h1
    by_cases k1 : (1 : Int) ≤ (K.length : Nat)
    case neg =>
     have p1 : decide ((1 : Int) ≤ (K.length : Nat)) = false := decide_eq_false k1
     clear HNO htp2
     go_wp2_with fail
     go_meet
     exact ⟨rfl, rfl⟩
    have p1 : decide ((1 : Int) ≤ (K.length : Nat)) = true := decide_eq_true k1
    by_cases k2 : ((K.length : Nat) : Int) ≤ 64
    case neg =>
     have p2 : decide (((K.length : Nat) : Int) ≤ 64) = false := decide_eq_false k2
     clear HNO htp2
     go_wp2_with fail
     go_meet
     exact ⟨rfl, rfl⟩
    have p2 : decide (((K.length : Nat) : Int) ≤ 64) = true := decide_eq_true k2
    obtain ⟨rfl, rfl⟩ : ideal = true ∧ table = false := by
     rcases HNO.out with h | h | h | ⟨h, h'⟩
     ·omega
     ·omega
     ·omega
     ·exact ⟨h, by cases table; rfl; exact absurd h' (htp2.1 rfl)⟩
    clear HNO htp2
    go_wp2_with fail
    go_meet
    exact ⟨rfl, rfl⟩
   have q0 : (role == 0) = false := by simpa using h0
   have q1 : (role == 1) = false := by simpa using h1
   clear HNO htp2
   go_wp2_with fail
   go_meet
   exact ⟨rfl, rfl⟩
  obtain ⟨rfl, rfl⟩ := hcut
  go_wp2_with fail
  refine (tick_nil 3 _).mono ?_
  rintro e w3 ⟨rfl, b3⟩
  have G3 := Lib.hid (G2.out.below b3)
  have B3 := Lib.hid (B2.out.trans (b3.mono B2.out.size))
  clear b3 c0 c1
  simp only [dgA]
  go_wp2_with fail
  have b4 : Below w3.heap.size w3 (w3.alloc (.cells #[.int .i64 0, .int .i64 0, .int .i64 0, .int .i64 0, .slice none 0 0] 39)) := (Below.refl _ _).alloc (Nat.le_refl _) _
  have G4 := Lib.hid (G3.out.below b4)
  have B4 := Lib.hid (B3.out.trans (b4.mono B3.out.size))
  clear b4
  generalize (w3.alloc (.cells #[.int .i64 0, .int .i64 0, .int .i64 0, .int .i64 0, .slice none 0 0] 39)) = w4 at *
  refine (submit_nil none 0 0 4 256 w4).mono ?_
  rintro e w5 ⟨rfl, b5⟩
  have G5 := Lib.hid (G4.out.below b5)
  have B5 := Lib.hid (B4.out.trans (b5.mono B4.out.size))
  clear b5
  go_wp2_with fail
  refine (ready_nil w5).mono ?_
  rintro e w6 ⟨rfl, rfl⟩
  go_wp2_with fail
  refine (acc_nil w5).mono ?_
  rintro e w6 ⟨rfl, rfl⟩
  go_wp2_with fail
  refine (awake25 w5 G5.out).mono ?_
  rintro e w6 ⟨rfl, b6⟩
  have B6 := Lib.hid (B5.out.trans (b6.mono B5.out.size))
  clear b6
  go_wp2_with fail
  go_ret
  exact ⟨rfl, B6.out⟩
 case pos =>
  obtain ⟨r, hr1, rfl⟩ : ∃ r : Nat, r ≤ 1 ∧ role = (r : Nat) := by
   rcases hmay.1 with h | h
   ·exact ⟨0, by omega, h⟩
   ·exact ⟨1, by omega, h⟩
  have HMY := Lib.hid hmay
  have HR1 := Lib.hid hr1
  clear hmay htp hr1
  go_wp2_with fail
  refine (hnew_ba r HR1.out _ _ _ tp ideal K T ⟨HMY.out.2.1, HMY.out.2.2.1⟩ (by have := HB.out; omega) wc HS1.out.1 HS1.out.2 HMY.out.2.2.2 ⟨_, _, _, rfl⟩).mono ?_
  rintro e w2 ⟨H, L, LM, KN, G, s, R, rfl, ba2, hro, had, hide, htab, b2⟩
  have R2 := Lib.hid (Rg.stable_row b2 R1.out)
  have G2 := Lib.hid (G1.out.below b2)
  have B2 := Lib.hid (B1.out.trans (b2.mono B1.out.size))
  have BA2 := Lib.hid ba2
  have HS := Lib.hid (And.intro hro (show 3 ≤ wc.heap.size ∧ w.heap.size ≤ wc.heap.size from ⟨G1.out.lt, B1.out.size⟩))
  have htb : ideal = true → table = true := fun h => HTP.out.2 (HMY.out.2.2.2 h)
  clear b2 l1 ba2 hro had hide htab
  have c0 : w2.cell? ⟨w.heap.size, 0, none⟩ = some (.slice sa K.length sc) := row?_cell R2.out 0
  have c1 : w2.cell? ⟨w.heap.size, 1, none⟩ = some (.bool ideal) := row?_cell R2.out 1
  go_upto_region 7 with (fail)
  go_cut [9] (fun b wx => b = .bool true ∧ wx = w2)
  case first =>
   have hm := HMY.out
   have k1 : (1 : Int) ≤ (K.length : Nat) := by omega
   have k2 : ((K.length : Nat) : Int) ≤ 64 := by omega
   have p1 : decide ((1 : Int) ≤ (K.length : Nat)) = true := decide_eq_true k1
   have p2 : decide (((K.length : Nat) : Int) ≤ 64) = true := decide_eq_true k2
   clear hm
   rcases (by have := HR1.out; omega : r = 0 ∨ r = 1) with rfl | rfl
   all_goals clear HR1 HMY
   all_goals cases ideal
   all_goals try (obtain rfl := htb rfl)
   all_goals
    clear htb
    go_wp2_with fail
    go_meet
    exact ⟨rfl, rfl⟩
  obtain ⟨rfl, rfl⟩ := hcut
  clear htb c0 c1
  go_wp2_with fail
  refine (tick_bare H L LM _ 0 s K T R _ 3 (by omega) (by rw [HS.out.1]; exact HR1.out) BA2.out.st.1 BA2.out.st.2.1 BA2.out.st.2.2.1 BA2.out.st.2.2.2.1 _ BA2.out.hi).mono ?_
  rintro e w3 ⟨rfl, b3⟩
  have BA3 := Lib.hid (BA2.out.below b3)
  have G3 := Lib.hid (G2.out.below b3)
  have B3 := Lib.hid (B2.out.trans (b3.mono B2.out.size))
  clear b3
  simp only [dgA]
  go_wp2_with fail
  have b4 : Below w3.heap.size w3 (w3.alloc (.cells #[.int .i64 0, .int .i64 0, .int .i64 0, .int .i64 0, .slice none 0 0] 39)) := (Below.refl _ _).alloc (Nat.le_refl _) _
  have BA4 := Lib.hid (BA3.out.below b4)
  have G4 := Lib.hid (G3.out.below b4)
  have B4 := Lib.hid (B3.out.trans (b4.mono B3.out.size))
  clear b4
  generalize (w3.alloc (.cells #[.int .i64 0, .int .i64 0, .int .i64 0, .int .i64 0, .slice none 0 0] 39)) = w4 at *
  refine (submit_state H L LM _ 0 s K T R _ 4 (by omega) (by omega) 256 (.inl rfl) [] (by simp) (.slice none 0 0) w4 BA4.out.hi (Sl.nil _) G4.out HS.out.2.1 BA4.out.un (fun b off n cap e h => by cases e)).mono ?_
  rintro e w5 ⟨rfl, hi5, m5⟩
  have BA5 := Lib.hid (BA4.out.asked hi5 m5)
  have G5 := Lib.hid (G4.out.keep m5 (fun k e => by rw [e]; exact Nat.le_trans HS.out.2.1 BA4.out.hi.nM))
  have B5 := Lib.hid (lowS B4.out m5 (fun k e => by rw [e]; exact Nat.le_trans HS.out.2.2 BA4.out.hi.nM))
  clear hi5 m5
  go_wp2_with fail
  refine (ready_un H s w5 BA5.out.hi.hr BA5.out.un).mono ?_
  rintro e w6 ⟨rfl, rfl⟩
  go_wp2_with fail
  refine (acc_any H s w5 BA5.out.hi.hr).mono ?_
  rintro e w6 ⟨rfl, rfl⟩
  rw [BA5.out.st.2.2.2.2.2]
  go_wp2_with fail
  refine (awake25 w5 G5.out).mono ?_
  rintro e w6 ⟨rfl, b6⟩
  have B6 := Lib.hid (B5.out.trans (b6.mono B5.out.size))
  clear b6
  go_wp2_with fail
  go_ret
  exact ⟨rfl, B6.out⟩
end Go.Proofs.YthjbmggpleliaaaGreatDoor

end
