/- FrmU; FrmU2; FrmJ1. -/
import Derived.Test.YthjbmggpleliaaaGreatDoorMhb36
import Derived.Test.YthjbmggpleliaaaGreatDoorMhb40
import Derived.Test.YthjbmggpleliaaaGreatDoorMhb44
section
namespace Frm
open Go Go.Rw Hdr
theorem n8_mod (x : Nat) : n8 (UInt8.ofNat x) = x % 256 := by simp [n8]
theorem drop_app {b x y : List UInt8} {at_ n : Nat} (h : b.drop at_ = x ++ y) (hx : x.length = n) : b.drop (at_ + n) = y := by
 rw [← List.drop_drop, h, List.drop_left' hx]
theorem app_le {b x y : List UInt8} {at_ n : Nat} (h : b.drop at_ = x ++ y) (hx : x.length = n) : n ≤ b.length - at_ := by
 have := congrArg List.length h
 rw [List.length_drop, List.length_append, hx] at this
 omega
theorem rtake_app {b x y : List UInt8} {at_ n : Nat} (h : b.drop at_ = x ++ y) (hx : x.length = n) : rtake b n (at_, 0) = ((at_ + n, 0), x) := by
 rw [rtake_ok (app_le h hx), h, List.take_left' hx]
theorem rvar_app {b x y : List UInt8} {at_ n k : Nat} (h : b.drop at_ = x ++ y) (hv : vget (x ++ y) = (n, k, 0)) : rvar b (at_, 0) = ((at_ + k, 0), n) := by
 rw [rvar_ok (by rw [h, hv]), h, hv]
theorem or64 : ∀ k : Fin 64, n8 (UInt8.ofNat k.1 ||| 64) = k.1 + 64 := by decide
theorem or128 : ∀ k : Fin 64, n8 (UInt8.ofNat k.1 ||| 128) = k.1 + 128 := by decide
theorem or192 : ∀ k : Fin 64, n8 (UInt8.ofNat k.1 ||| 192) = k.1 + 192 := by decide
theorem vget_cons {c : UInt8} {t y : List UInt8} {n m : Nat} (hm : n8 c / 64 = m) (hl : t.length + 1 = 2 ^ m) (hf : t.foldl (fun n c => n * 256 + n8 c) (n8 c % 64) = n) : vget ((c :: t) ++ y) = (n, 2 ^ m, 0) := by
 unfold vget vnum vmany
 rw [show nth ((c :: t) ++ y) 0 = c from rfl, hm, if_neg (by simp; omega), List.take_left' (by simp [hl])]
 rw [List.drop_succ_cons, List.drop_zero, hf]
theorem vget_vin1 {n : Nat} (h : n < 64) (y : List UInt8) : vget (vin n 1 ++ y) = (n, 1, 0) := by
 have e : n8 (UInt8.ofNat n) = n := by rw [n8_mod]; omega
 have v : vin n 1 = UInt8.ofNat n :: [] := by
  have : vmk 1 = 0 := by decide
  simp [vin, this, List.range, List.range.loop]
 rw [v]
 exact vget_cons (m := 0) (by rw [e]; omega) rfl (by simp [e]; omega)
theorem vget_vin2 {n : Nat} (h : n < 16384) (y : List UInt8) : vget (vin n 2 ++ y) = (n, 2, 0) := by
 have e : n8 (UInt8.ofNat (n / 256) ||| 64) = n / 256 + 64 := or64 ⟨n / 256, by omega⟩
 have v : vin n 2 = (UInt8.ofNat (n / 256) ||| 64) :: [UInt8.ofNat n] := by
  have : vmk 2 = 64 := by decide
  simp [vin, this, List.range, List.range.loop]
 rw [v]
 exact vget_cons (m := 1) (by rw [e]; omega) rfl (by simp only [List.foldl_cons, List.foldl_nil, e, n8_mod]; omega)
theorem vget_vin4 {n : Nat} (h : n < 1073741824) (y : List UInt8) : vget (vin n 4 ++ y) = (n, 4, 0) := by
 have e : n8 (UInt8.ofNat (n / 16777216) ||| 128) = n / 16777216 + 128 := or128 ⟨n / 16777216, by omega⟩
 have v : vin n 4 = (UInt8.ofNat (n / 16777216) ||| 128) :: [UInt8.ofNat (n / 65536), UInt8.ofNat (n / 256), UInt8.ofNat n] := by
  have : vmk 4 = 128 := by decide
  simp [vin, this, List.range, List.range.loop]
 rw [v]
 exact vget_cons (m := 2) (by rw [e]; omega) rfl (by simp only [List.foldl_cons, List.foldl_nil, e, n8_mod]; omega)
theorem vget_vin8 {n : Nat} (h : n < 4611686018427387904) (y : List UInt8) : vget (vin n 8 ++ y) = (n, 8, 0) := by
 have e : n8 (UInt8.ofNat (n / 72057594037927936) ||| 192) = n / 72057594037927936 + 192 := or192 ⟨n / 72057594037927936, by omega⟩
 have v : vin n 8 = (UInt8.ofNat (n / 72057594037927936) ||| 192) :: [UInt8.ofNat (n / 281474976710656), UInt8.ofNat (n / 1099511627776), UInt8.ofNat (n / 4294967296), UInt8.ofNat (n / 16777216), UInt8.ofNat (n / 65536), UInt8.ofNat (n / 256), UInt8.ofNat n] := by
  have : vmk 8 = 192 := by decide
  simp [vin, this, List.range, List.range.loop]
 rw [v]
 exact vget_cons (m := 3) (by rw [e]; omega) rfl (by simp only [List.foldl_cons, List.foldl_nil, e, n8_mod]; omega)
theorem vget_vP {n : Nat} (h : n ≤ 4611686018427387903) (y : List UInt8) : vget (vP n ++ y) = (n, vlen n, 0) := by
 unfold vP vlen
 split
 ·exact vget_vin1 (by assumption) y
 ·split
  ·exact vget_vin2 (by assumption) y
  ·split
   ·exact vget_vin4 (by assumption) y
   ·rw [if_pos (by omega)]; exact vget_vin8 (by omega) y
theorem rvP {b y : List UInt8} {at_ n : Nat} (hn : n ≤ 4611686018427387903) (h : b.drop at_ = vP n ++ y) : rvar b (at_, 0) = ((at_ + (vP n).length, 0), n) ∧ b.drop (at_ + (vP n).length) = y :=
 ⟨by rw [vP_length]; exact rvar_app h (vget_vP hn y), drop_app h rfl⟩
theorem rtP {b x y : List UInt8} {at_ n : Nat} (hn : x.length = n) (h : b.drop at_ = x ++ y) : rtake b n (at_, 0) = ((at_ + x.length, 0), x) ∧ b.drop (at_ + x.length) = y := by
 subst hn; exact ⟨rtake_app h rfl, drop_app h rfl⟩
theorem vP_0 : vP 0 = [0] := by decide
theorem rzP {b y : List UInt8} {at_ : Nat} (h : b.drop at_ = [0] ++ y) : rzero b (at_, 0) = (at_ + 1, 0) ∧ b.drop (at_ + 1) = y := by
 rw [← vP_0] at h
 have := rvP (n := 0) (by omega) h
 unfold rzero
 rw [this.1, vP_0]
 exact ⟨by simp [rfail], by have := this.2; rwa [vP_0] at this⟩
theorem ackR_cons (r : Nat × Nat) (l : List (Nat × Nat)) : ∀ k, ackR (r :: l) (k + 1) = ackG (r :: l) 0 ++ ackR l k := by
 intro k
 unfold ackR
 rw [List.range_succ_eq_map, List.flatMap_cons, List.flatMap_map]
 congr 1
theorem rsAll_cons {r : Nat × Nat} {l : List (Nat × Nat)} (h : rsAll (r :: l) (l.length + 1) = true) : r.1 ≤ r.2 ∧ r.2 ≤ 4611686018427387903 ∧ (∀ q m, l = q :: m → 2 ≤ r.1 ∧ q.2 ≤ r.1 - 2) ∧ rsAll l l.length = true := by
 unfold rsAll at h
 rw [List.all_eq_true] at h
 have h0 := h 0 (by simp)
 simp only [rOk, List.getD_cons_zero, Bool.and_eq_true, decide_eq_true_eq] at h0
 refine ⟨h0.1.1, h0.1.2, ?_, ?_⟩
 ·rintro q m rfl
  have h1 := h 1 (by simp)
  simp [rOk] at h1
  omega
 ·unfold rsAll
  rw [List.all_eq_true]
  intro i hi
  have h1 := h (i + 1) (by simp at hi ⊢; omega)
  simp only [rOk, List.getD_cons_succ, Bool.and_eq_true, decide_eq_true_eq, Bool.or_eq_true] at h1 ⊢
  refine ⟨h1.1, ?_⟩
  cases i with
  | zero => exact .inl rfl
  | succ i => exact .inr (by simpa using h1.2)
theorem rgo_app {b : List UInt8} : ∀ (l : List (Nat × Nat)) (r : Nat × Nat) (at_ : Nat) (acc : List (Nat × Nat)) (y : List UInt8), rsAll (r :: l) (l.length + 1) = true →
  b.drop at_ = vP (r.2 - r.1) ++ (ackR (r :: l) l.length ++ y) → rgo b l.length r.2 (at_, 0) acc = ((at_ + (vP (r.2 - r.1)).length + (ackR (r :: l) l.length).length, 0), acc ++ r :: l) := by
 intro l
 induction l with
 | nil =>
  intro r at_ acc y ho h
  obtain ⟨h1, h2, -, -⟩ := rsAll_cons ho
  have hv := rvP (by omega) h
  unfold rgo
  simp only [hv.1]
  rw [decide_eq_false (by omega), rfail_ok, if_neg (by simp)]
  rw [show r.2 - (r.2 - r.1) = r.1 by omega]
  simp [ackR]
 | cons q l ih =>
  intro r at_ acc y ho h
  obtain ⟨h1, h2, h3, h4⟩ := rsAll_cons ho
  obtain ⟨h5, h6⟩ := h3 q l rfl
  have hv := rvP (by omega) h
  have e : ackR (r :: q :: l) (l.length + 1) = vP (r.1 - q.2 - 2) ++ (vP (q.2 - q.1) ++ ackR (q :: l) l.length) := by
   rw [ackR_cons]; simp [ackG, rlo, rhi]
  have hd := hv.2
  rw [List.length_cons, e, List.append_assoc, List.append_assoc] at hd
  obtain ⟨k1, k2, -, -⟩ := rsAll_cons h4
  have hg := rvP (by omega) hd
  have hi := ih q (at_ + (vP (r.2 - r.1)).length + (vP (r.1 - q.2 - 2)).length) (acc ++ [r]) y h4 hg.2
  rw [List.length_cons]
  unfold rgo
  simp only [hv.1]
  rw [decide_eq_false (by omega), rfail_ok, if_neg (by simp)]
  simp only [hg.1]
  rw [show r.2 - (r.2 - r.1) = r.1 by omega, decide_eq_false (show ¬ r.1 < 2 by omega), decide_eq_false (show ¬ (r.1 - 2 < r.1 - q.2 - 2) by omega)]
  simp only [Bool.or_false, Bool.and_false, rfail_ok]
  rw [if_neg (by simp), show r.1 - 2 - (r.1 - q.2 - 2) = q.2 by omega, hi, e]
  simp only [List.length_append, List.append_assoc]
  congr 2
  omega
theorem fget_body {c : UInt8} {t : List UInt8} {f : Fr} {at_ : Nat} (h1 : n8 c ≤ 63) (h2 : c ≠ 0) (h : rbody (c :: t) (1, 0) { fr0 with k := (n8 c : Nat) } = ((at_, 0), f)) : fget (c :: t) = (f, at_, 0) := by
 unfold fget
 rw [if_neg (by simp), show nth (c :: t) 0 = c from rfl, if_neg (by omega), if_neg h2]
 simp only [h]
 rw [if_neg (by simp)]
theorem rbytes_app {b y dat : List UInt8} {at_ o : Nat} {f : Fr} (ho : o + dat.length ≤ 4611686018427387903) (hd : dat.length < 16384) (h : b.drop at_ = vP o ++ (vP dat.length ++ (dat ++ y))) :
  rbytes b (at_, 0) f = ((at_ + (vP o).length + (vP dat.length).length + dat.length, 0), { f with o := o, dat := dat }) := by
 have h1 := rvP (by omega) h
 have h2 := rvP (by omega) h1.2
 have h3 := rtP rfl h2.2
 unfold rbytes
 simp only [h1.1, h2.1]
 rw [decide_eq_false (show ¬ 16383 < dat.length by omega), decide_eq_false (show ¬ 4611686018427387903 - dat.length < o by omega)]
 simp only [Bool.or_false, rfail_ok, h3.1]
theorem rack_app {b y : List UInt8} {at_ d : Nat} {rs : List (Nat × Nat)} {f : Fr} (hf : f.rs = []) (hd : d ≤ 4611686018427387903) (ho : rsOk rs = true) (h : b.drop at_ = ackB d rs ++ (ackR rs (rs.length - 1) ++ y)) :
  rack b (at_, 0) f = ((at_ + (ackB d rs).length + (ackR rs (rs.length - 1)).length, 0), { f with d := d, rs := rs }) := by
 unfold rsOk at ho
 simp only [Bool.and_eq_true, decide_eq_true_eq] at ho
 obtain ⟨⟨h1, h8⟩, hall⟩ := ho
 cases rs with
 | nil => simp at h1
 | cons r l =>
  obtain ⟨k1, k2, -, -⟩ := rsAll_cons hall
  have eB : ackB d (r :: l) = vP r.2 ++ (vP d ++ (vP l.length ++ vP (r.2 - r.1))) := by simp [ackB, rhi, rlo]
  rw [eB] at h ⊢
  simp only [List.append_assoc] at h
  rw [show (r :: l).length - 1 = l.length by simp] at h ⊢
  have g1 := rvP k2 h
  have g2 := rvP hd g1.2
  have g3 := rvP (n := l.length) (by simp at h8; omega) g2.2
  have g4 := rgo_app l r _ [] y hall g3.2
  unfold rack
  simp only [g1.1, g2.1, g3.1]
  rw [decide_eq_false (show ¬ 8 ≤ l.length by simp at h8; omega), rfail_ok, hf, g4]
  simp only [List.length_append, List.nil_append]
  congr 2
  omega
theorem rcid_app {b y cid tok : List UInt8} {at_ n : Nat} {f : Fr} (hn : n ≤ 4611686018427387903) (hc : cid.length = 8) (ht : tok.length = 16) (h : b.drop at_ = vP n ++ ([0] ++ ([8] ++ (cid ++ (tok ++ y))))) :
  rcid b (at_, 0) f = ((at_ + (vP n).length + 26, 0), { f with n := n, cid := cid, tok := tok }) := by
 have h1 := rvP hn h
 have h2 := rzP h1.2
 have h3 := rtP (n := 1) rfl h2.2
 have h4 := rtP hc h3.2
 have h5 := rtP ht h4.2
 unfold rcid
 simp only [h1.1, h2.1]
 rw [show ([8] : List UInt8).length = 1 from rfl] at h3 h4 h5
 rw [h3.1]
 simp only []
 rw [show (decide (([8] : List UInt8).length = 1) && (nth ([8] : List UInt8) 0 != 8)) = false by decide, rfail_ok]
 rw [hc] at h4
 rw [hc, ht] at h5
 rw [h4.1]
 simp only []
 rw [h5.1]
set_option maxHeartbeats 1000000 in
theorem fget_put (f : Fr) (hm : f.may = true) (hk : f.k ≠ 0) (y : List UInt8) : fget (f.put ++ y) = (f, f.put.length, 0) := by
 obtain ⟨k, n, d, rs, i, o, fin, dat, cid, tok⟩ := f
 simp only [] at hk
 unfold Fr.may mayB at hm
 simp only [] at hm
 rw [if_neg hk] at hm
 split at hm
 ·rename_i h
  simp only [plainB, Bool.and_eq_true, decide_eq_true_eq, Bool.not_eq_true', List.length_eq_zero_iff] at hm
  obtain ⟨⟨⟨⟨⟨⟨⟨⟨rfl, rfl⟩, rfl⟩, rfl⟩, rfl⟩, rfl⟩, rfl⟩, rfl⟩, rfl⟩ := hm
  rcases h with rfl | rfl
  ·refine fget_body (c := 1) (by decide) (by decide) ?_
   rfl
  ·refine fget_body (c := 30) (by decide) (by decide) ?_
   rfl
 split at hm
 ·rename_i h
  simp only [plainB, Bool.and_eq_true, decide_eq_true_eq, Bool.not_eq_true', List.length_eq_zero_iff] at hm
  obtain ⟨⟨hd, ho⟩, ⟨⟨⟨⟨⟨⟨⟨⟨rfl, -⟩, -⟩, rfl⟩, rfl⟩, rfl⟩, rfl⟩, rfl⟩, rfl⟩⟩ := hm
  subst h
  have hr := rack_app (b := 2 :: (ackB d rs ++ (ackR rs (rs.length - 1) ++ y))) (at_ := 1) (f := { fr0 with k := 2 }) rfl hd ho rfl
  unfold Fr.put
  simp only []
  rw [if_neg (by decide), if_pos trivial]
  rw [show [2] ++ ackB d rs ++ ackR rs (rs.length - 1) ++ y = 2 :: (ackB d rs ++ (ackR rs (rs.length - 1) ++ y)) by simp]
  refine fget_body (by decide) (by decide) ?_
  unfold rbody
  rw [show (((n8 2 : Nat)) : Int) = 2 by decide, if_neg (by decide), if_pos rfl]
  refine hr.trans ?_
  simp only [fr0, List.length_append, List.length_cons, List.length_nil]
 split at hm
 ·rename_i h
  simp only [plainB, Bool.and_eq_true, decide_eq_true_eq, Bool.not_eq_true', List.length_eq_zero_iff] at hm
  obtain ⟨⟨hd, -, ho⟩, ⟨⟨⟨⟨⟨⟨⟨⟨rfl, rfl⟩, rfl⟩, rfl⟩, -⟩, rfl⟩, -⟩, rfl⟩, rfl⟩⟩ := hm
  subst h
  have hr := rbytes_app (b := 6 :: (vP o ++ (vP dat.length ++ (dat ++ y)))) (at_ := 1) (f := { fr0 with k := 6 }) ho hd rfl
  unfold Fr.put
  simp only []
  rw [if_neg (by decide), if_neg (by decide), if_pos trivial]
  rw [show [6] ++ vP o ++ vP dat.length ++ dat ++ y = 6 :: (vP o ++ (vP dat.length ++ (dat ++ y))) by simp]
  refine fget_body (by decide) (by decide) ?_
  unfold rbody
  rw [show (((n8 6 : Nat)) : Int) = 6 by decide, if_neg (by decide), if_neg (by decide), if_pos rfl]
  refine hr.trans ?_
  simp only [fr0, List.length_append, List.length_cons, List.length_nil]
 split at hm
 ·rename_i h
  simp only [plainB, Bool.and_eq_true, decide_eq_true_eq, Bool.not_eq_true', List.length_eq_zero_iff] at hm
  obtain ⟨⟨hd, hi, ho⟩, ⟨⟨⟨⟨⟨⟨⟨⟨rfl, rfl⟩, rfl⟩, -⟩, -⟩, -⟩, -⟩, rfl⟩, rfl⟩⟩ := hm
  subst h
  unfold Fr.put
  simp only []
  rw [if_neg (by decide), if_neg (by decide), if_neg (by decide), if_pos trivial]
  obtain ⟨c, hc⟩ : ∃ c : UInt8, (if fin = true then (15 : UInt8) else 14) = c := ⟨_, rfl⟩
  rw [hc]
  have hv := rvP (b := c :: (vP i ++ (vP o ++ (vP dat.length ++ (dat ++ y))))) (at_ := 1) hi rfl
  have hr := rbytes_app (f := { fr0 with fin := fin, k := 8, i := i }) ho hd hv.2
  rw [show [c] ++ vP i ++ vP o ++ vP dat.length ++ dat ++ y = c :: (vP i ++ (vP o ++ (vP dat.length ++ (dat ++ y)))) by simp]
  have h15 : (((n8 c : Nat)) : Int) = if fin then 15 else 14 := by subst hc; cases fin <;> decide
  refine fget_body (by subst hc; cases fin <;> decide) (by subst hc; cases fin <;> decide) ?_
  unfold rbody
  rw [h15]
  have e1 : ((if fin = true then (15 : Int) else 14) == 15) = fin := by cases fin <;> decide
  simp only []
  rw [if_neg (by cases fin <;> decide), if_neg (by cases fin <;> decide), if_neg (by cases fin <;> decide), if_pos (by cases fin <;> decide), e1, hv.1]
  simp only [hr]
  simp only [fr0, List.length_append, List.length_cons, List.length_nil]
 split at hm
 ·rename_i h
  simp only [plainB, Bool.and_eq_true, decide_eq_true_eq, Bool.not_eq_true', List.length_eq_zero_iff] at hm
  obtain ⟨hn, ⟨⟨⟨⟨⟨⟨⟨⟨-, rfl⟩, rfl⟩, rfl⟩, rfl⟩, rfl⟩, rfl⟩, rfl⟩, rfl⟩⟩ := hm
  rcases h with rfl | rfl | rfl
  ·have hv := rvP (b := 16 :: (vP n ++ y)) (at_ := 1) hn rfl
   unfold Fr.put
   simp only []
   rw [if_neg (by decide), if_neg (by decide), if_neg (by decide), if_neg (by decide), if_pos trivial]
   rw [show [16] ++ vP n ++ y = 16 :: (vP n ++ y) by simp]
   refine fget_body (by decide) (by decide) ?_
   unfold rbody
   rw [show (((n8 16 : Nat)) : Int) = 16 by decide, if_neg (by decide), if_neg (by decide), if_neg (by decide), if_neg (by decide), if_pos (by decide), hv.1]
   simp only [fr0, List.length_append, List.length_cons, List.length_nil]
  ·have hv := rvP (b := 25 :: (vP n ++ y)) (at_ := 1) hn rfl
   unfold Fr.put
   simp only []
   rw [if_neg (by decide), if_neg (by decide), if_neg (by decide), if_neg (by decide), if_neg (by decide), if_pos trivial]
   rw [show [25] ++ vP n ++ y = 25 :: (vP n ++ y) by simp]
   refine fget_body (by decide) (by decide) ?_
   unfold rbody
   rw [show (((n8 25 : Nat)) : Int) = 25 by decide, if_neg (by decide), if_neg (by decide), if_neg (by decide), if_neg (by decide), if_pos (by decide), hv.1]
   simp only [fr0, List.length_append, List.length_cons, List.length_nil]
  ·have hv := rvP (b := 28 :: (vP n ++ ([0] ++ ([0] ++ y)))) (at_ := 1) hn rfl
   have h1 := rzP hv.2
   have h2 := rzP h1.2
   unfold Fr.put
   simp only []
   rw [if_neg (by decide), if_neg (by decide), if_neg (by decide), if_neg (by decide), if_neg (by decide), if_neg (by decide), if_neg (by decide), if_neg (by decide), if_neg (by decide), if_pos trivial]
   rw [show [28] ++ vP n ++ [0, 0] ++ y = 28 :: (vP n ++ ([0] ++ ([0] ++ y))) by simp]
   refine fget_body (by decide) (by decide) ?_
   unfold rbody
   rw [show (((n8 28 : Nat)) : Int) = 28 by decide, if_neg (by decide), if_neg (by decide), if_neg (by decide), if_neg (by decide), if_neg (by decide), if_neg (by decide), if_neg (by decide), if_pos (by decide), hv.1]
   simp only []
   rw [h1.1, h2.1]
   simp only [fr0, List.length_append, List.length_cons, List.length_nil]
 split at hm
 ·rename_i h
  simp only [plainB, Bool.and_eq_true, decide_eq_true_eq, Bool.not_eq_true', List.length_eq_zero_iff] at hm
  obtain ⟨⟨hn, hc, ht⟩, ⟨⟨⟨⟨⟨⟨⟨⟨-, rfl⟩, rfl⟩, rfl⟩, rfl⟩, rfl⟩, rfl⟩, -⟩, -⟩⟩ := hm
  subst h
  have hr := rcid_app (b := 24 :: (vP n ++ ([0] ++ ([8] ++ (cid ++ (tok ++ y)))))) (at_ := 1) (f := { fr0 with k := 24 }) hn hc ht rfl
  unfold Fr.put
  simp only []
  rw [if_neg (by decide), if_neg (by decide), if_neg (by decide), if_neg (by decide), if_neg (by decide), if_neg (by decide), if_pos trivial]
  rw [show [24] ++ vP n ++ [0, 8] ++ cid ++ tok ++ y = 24 :: (vP n ++ ([0] ++ ([8] ++ (cid ++ (tok ++ y))))) by simp]
  refine fget_body (by decide) (by decide) ?_
  unfold rbody
  rw [show (((n8 24 : Nat)) : Int) = 24 by decide, if_neg (by decide), if_neg (by decide), if_neg (by decide), if_neg (by decide), if_neg (by decide), if_pos rfl]
  refine hr.trans ?_
  simp only [fr0, List.length_append, List.length_cons, List.length_nil]
  congr 2
  omega
 split at hm
 ·rename_i h
  simp only [plainB, Bool.and_eq_true, decide_eq_true_eq, Bool.not_eq_true', List.length_eq_zero_iff] at hm
  obtain ⟨hd, ⟨⟨⟨⟨⟨⟨⟨⟨rfl, rfl⟩, rfl⟩, rfl⟩, rfl⟩, rfl⟩, -⟩, rfl⟩, rfl⟩⟩ := hm
  rcases h with rfl | rfl
  ·have hr := rtP (b := 26 :: (dat ++ y)) (at_ := 1) hd rfl
   refine fget_body (c := 26) (t := dat ++ y) (by decide) (by decide) ?_
   unfold rbody
   rw [show (((n8 26 : Nat)) : Int) = 26 by decide, if_neg (by decide), if_neg (by decide), if_neg (by decide), if_neg (by decide), if_neg (by decide), if_neg (by decide), if_pos (by decide), hr.1]
   simp only [fr0, Fr.put]
   simp
   omega
  ·have hr := rtP (b := 27 :: (dat ++ y)) (at_ := 1) hd rfl
   refine fget_body (c := 27) (t := dat ++ y) (by decide) (by decide) ?_
   unfold rbody
   rw [show (((n8 27 : Nat)) : Int) = 27 by decide, if_neg (by decide), if_neg (by decide), if_neg (by decide), if_neg (by decide), if_neg (by decide), if_neg (by decide), if_pos (by decide), hr.1]
   simp only [fr0, Fr.put]
   simp
   omega
 ·exact absurd hm (by decide)
end Frm

end
section
namespace Frm
open Go Go.Rw Hdr
def padF (m : Nat) : Fr := { fr0 with n := m }
end Frm

end
section
namespace Frm
open Go Go.RowKit Go.Rw Hdr
theorem put_first {f : Fr} (hm : f.may = true) (hk : f.k ≠ 0) : nth f.put 0 ≠ 0 ∧ 1 ≤ f.put.length := by
 have hg := fget_put f hm hk []
 rw [List.append_nil] at hg
 have hne : f.put.length ≠ 0 := by
  intro e
  rw [List.eq_nil_of_length_eq_zero e] at hg
  simp [fget] at hg
 refine ⟨fun e => ?_, by omega⟩
 unfold fget at hg
 rw [if_neg hne, e, if_neg (by decide), if_pos rfl] at hg
 have := congrArg (fun q => q.1.k) hg
 exact hk this.symm
def cat (fs : List Fr) : List UInt8 := fs.flatMap Fr.put
theorem cat_snoc (fs : List Fr) (f : Fr) : cat (fs ++ [f]) = cat fs ++ f.put := by simp [cat]
end Frm

end
