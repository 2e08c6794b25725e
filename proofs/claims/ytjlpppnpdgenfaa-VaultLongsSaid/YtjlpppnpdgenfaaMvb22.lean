/- VltG; VltH; VltU. -/
import Derived.Test.YtjlpppnpdgenfaaMvb6
import Derived.Test.YtjlpppnpdgenfaaMvb21
import Derived.Test.YtjlpppnpdgenfaaMvbHdrT1
import Derived.Test.YtjlpppnpdgenfaaMvb3
section
namespace Hdr
open Go.Rw
theorem aheadP_bad {b : List UInt8} {x : Int} (h : (aheadS b).1.2 = x) (hx : x ≠ 0) : aheadP b = (0, 0, x) := by unfold aheadP; rw [h, if_pos hx]
theorem rest_tok {b : List UInt8} {k : Int} {s : Nat × Int} (h : (aTok b k s).1.2 ≠ 0) : (aRest b k s).1 = (aTok b k s).1 := aRest_bad h
theorem rest_src {b : List UInt8} {k : Int} {s : Nat × Int} (h : (aSrc b k s).1.2 ≠ 0) : (aRest b k s).1 = (aSrc b k s).1 := by
 have e := aTok_bad2 h
 rw [rest_tok (by rw [e]; exact h), e]
theorem rest_dst {b : List UInt8} {k : Int} {s : Nat × Int} (h : (aDst b k s).1.2 ≠ 0) : (aRest b k s).1 = (aDst b k s).1 := by
 have e := aSrc_bad h
 rw [rest_src (by rw [e]; exact h), e]
theorem rest_ver {b : List UInt8} {k : Int} {s : Nat × Int} (h : (aVer b k s).1.2 ≠ 0) : (aRest b k s).1 = (aVer b k s).1 := by
 have e := aDst_bad h
 rw [rest_dst (by rw [e]; exact h), e]
theorem rest_kind {b : List UInt8} {k : Int} {s : Nat × Int} (h : (aKind k s).2 ≠ 0) : (aRest b k s).1 = aKind k s := by
 have e := aVer_bad (b := b) h
 rw [rest_ver (by rw [e]; exact h), e]
theorem rest_first {b : List UInt8} {k : Int} {s : Nat × Int} (h : s.2 ≠ 0) : (aRest b k s).1 = s := by
 have e : aKind k s = s := by unfold aKind; exact rfail_bad h
 rw [rest_kind (by rw [e]; exact h), e]
theorem aheadS_rest {b : List UInt8} (hl : (gByte b &&& 128 == 0) = false) (h : (aRest b (gKind b) (gFirst b)).1.2 ≠ 0) : (aheadS b).1 = (aRest b (gKind b) (gFirst b)).1 := by
 rw [aheadS_long hl]; exact rfail_bad h
def aheadQ (b : List UInt8) : Nat × Nat × Int :=
 match lead b true with
 | .error e => (0, 0, e)
 | .ok (_, at_, told) => if b.length < at_ + told then (0, 0, 3) else (at_, at_ + told, 0)
theorem aheadP_Q (b : List UInt8) (hb : b.length ≤ 1000000) : aheadP b = aheadQ b := by
 unfold aheadQ lead
 by_cases h0 : b.length = 0
 ·rw [if_pos h0]
  have e : gFirst b = (0, 3) := by unfold gFirst; rw [rnum_short (by omega), rfail_bad (by simp)]
  have hby : gByte b = 0 := by unfold gByte; rw [rnum_short (by omega)]; rfl
  exact aheadP_bad (by rw [aheadS_short (by rw [hby]; rfl), e, rtake_bad (by simp)]) (by decide)
 rw [if_neg h0]
 have hf1 := rnum1 (b := b) (at_ := 0) (by omega)
 have hby : gByte b = nth b 0 := by unfold gByte; rw [hf1]; exact ofNat_n8 _
 by_cases h1 : nth b 0 &&& 64 = 0
 ·rw [if_pos h1]
  have e : gFirst b = (1, 5) := by unfold gFirst; rw [hby, hf1, h1]; rfl
  cases hl : (gByte b &&& 128 == 0)
  ·exact aheadP_bad (by rw [aheadS_rest hl (by rw [e, rest_first (by decide)]; decide), e, rest_first (by decide)]) (by decide)
  ·exact aheadP_bad (by rw [aheadS_short hl, e, rtake_bad (by simp)]) (by decide)
 rw [if_neg h1]
 have hfi : gFirst b = (1, 0) := by
  unfold gFirst; rw [hby, hf1, show (nth b 0 &&& 64 == 0) = false by simpa using h1]; rfl
 by_cases h2 : nth b 0 &&& 128 = 0
 ·rw [if_pos h2]
  have hl : (gByte b &&& 128 == 0) = true := by rw [hby, h2]; rfl
  rw [if_neg (by simp)]
  by_cases h4 : b.length < 9
  ·rw [if_pos h4]
   exact aheadP_bad (by rw [aheadS_short hl, hfi, rtake_short (by omega)]) (by decide)
  rw [if_neg h4]
  simp only []
  rw [if_neg (by omega)]
  unfold aheadP
  rw [aheadS_short hl, hfi, rtake_ok (by omega)]
  simp only [ne_eq, not_true_eq_false, if_false]
  rw [show 9 + (b.length - 9) = b.length by omega]
 rw [if_neg h2]
 have hl : (gByte b &&& 128 == 0) = false := by rw [hby]; simpa using h2
 have hgk : gKind b = (n8 (nth b 0) / 16 % 4 : Nat) := by unfold gKind; rw [hby]
 have hko := kind_odd (n8 (nth b 0))
 have hk4 : n8 (nth b 0) / 16 % 4 < 4 := Nat.mod_lt _ (by decide)
 rw [← hgk] at hko
 have hbad : ∀ e : Int, e ≠ 0 → (aRest b (gKind b) (1, 0)).1.2 = e → aheadP b = (0, 0, e) := fun e he h => by
  exact aheadP_bad (by rw [aheadS_rest hl (by rw [hfi, h]; exact he), hfi, h]) he
 rw [← hgk]
 generalize hKN : n8 (nth b 0) / 16 % 4 = kn at hko hgk hk4 ⊢
 by_cases h3 : kn % 2 = 1 ∨ (nth b 0 &&& 12 ≠ 0 ∧ true = false)
 ·rw [if_pos h3]
  have h3' : kn % 2 = 1 := by simpa using h3
  have e3 : aKind (gKind b) (1, 0) = (1, 5) := by unfold aKind; rw [hko, decide_eq_true h3']; rfl
  exact hbad 5 (by decide) (by rw [rest_kind (by rw [e3]; decide), e3])
 rw [if_neg h3]
 have hak : aKind (gKind b) (1, 0) = (1, 0) := by
  unfold aKind; rw [hko, decide_eq_false (fun h => h3 (Or.inl h))]; rfl
 by_cases h4 : b.length < 5
 ·rw [if_pos h4]
  have e : (aVer b (gKind b) (1, 0)).1 = (1, 3) := by unfold aVer; rw [hak, rnum_short (by omega)]
  exact hbad 3 (by decide) (by rw [rest_ver (by rw [e]; decide), e])
 rw [if_neg h4]
 have hve : aVer b (gKind b) (1, 0) = ((5, 0), num ((b.drop 1).take 4)) := by unfold aVer; rw [hak, rnum_ok (by omega)]
 have hp1 := rid_part b 5 true
 have hd1 : aDst b (gKind b) (1, 0) = rid b 8 8 (5, 0) := by unfold aDst; rw [hve]
 simp only [if_true] at hp1
 rw [← hd1] at hp1
 cases hl1 : lPart b 5 true with
 | error e =>
  rw [hl1] at hp1
  exact hbad e hp1.1 (by rw [rest_dst (by rw [hp1.2]; exact hp1.1), hp1.2])
 | ok da =>
 obtain ⟨d, at1⟩ := da
 rw [hl1] at hp1
 simp only [] at hp1
 simp only []
 have hp2 := rid_part b at1 false
 have hd2 : aSrc b (gKind b) (1, 0) = rid b 0 20 (at1, 0) := by unfold aSrc; rw [hp1]
 simp only [Bool.false_eq_true, if_false] at hp2
 rw [← hd2] at hp2
 cases hl2 : lPart b at1 false with
 | error e =>
  rw [hl2] at hp2
  exact hbad e hp2.1 (by rw [rest_src (by rw [hp2.2]; exact hp2.1), hp2.2])
 | ok sa =>
 obtain ⟨sr, at2⟩ := sa
 rw [hl2] at hp2
 simp only [] at hp2
 simp only []
 have hle2 := lPart_le hl2
 have hp3 : match lTok b kn at2 with
   | .error e => e ≠ 0 ∧ (aTok b (gKind b) (1, 0)).1.2 = e
   | .ok (t, at3) => aTok b (gKind b) (1, 0) = ((at3, 0), t) := by
  unfold lTok
  by_cases hk : kn ≠ 0
  ·rw [if_pos hk]
   have : gKind b ≠ 0 := by rw [hgk]; omega
   show aTok b (gKind b) (1, 0) = ((at2, 0), [])
   unfold aTok; rw [if_neg this, hp2]
  rw [if_neg hk]
  have hk0 : gKind b = 0 := by rw [hgk]; omega
  by_cases hv : (vget (b.drop at2)).2.2 ≠ 0
  ·rw [if_pos hv]
   have e : (aTokN b (gKind b) (1, 0)).1.2 = (vget (b.drop at2)).2.2 := by unfold aTokN; rw [hp2, rvar_fail hv]
   exact ⟨hv, by rw [aTok_bad hk0 (by rw [e]; exact hv), e]⟩
  rw [if_neg hv]
  have e : aTokN b (gKind b) (1, 0) = ((at2 + (vget (b.drop at2)).2.1, 0), (vget (b.drop at2)).1) := by unfold aTokN; rw [hp2, rvar_ok (by simpa using hv)]
  have hmany := vget_many (b.drop at2)
  rw [List.length_drop] at hmany
  by_cases hn : 100 < (vget (b.drop at2)).1
  ·rw [if_pos hn]
   refine ⟨by decide, ?_⟩
   unfold aTok; rw [if_pos hk0, e, decide_eq_true hn, rfail_yes, rtake_bad (by simp)]
  rw [if_neg hn]
  have et : aTok b (gKind b) (1, 0) = rtake b (vget (b.drop at2)).1 (at2 + (vget (b.drop at2)).2.1, 0) := by
   unfold aTok; rw [if_pos hk0, e, decide_eq_false hn, rfail_ok, Nat.min_eq_left (by omega)]
  by_cases ht : b.length < at2 + (vget (b.drop at2)).2.1 + (vget (b.drop at2)).1
  ·rw [if_pos ht]
   exact ⟨by decide, by rw [et, rtake_short (by omega)]⟩
  rw [if_neg ht]
  show aTok b (gKind b) (1, 0) = _
  rw [et]
  have hle : (vget (b.drop at2)).1 ≤ b.length - (at2 + (vget (b.drop at2)).2.1) := by omega
  rw [rtake_ok hle]
 cases hl3 : lTok b kn at2 with
 | error e =>
  rw [hl3] at hp3
  exact hbad e hp3.1 (by rw [rest_tok (by rw [hp3.2]; exact hp3.1), hp3.2])
 | ok ta =>
 obtain ⟨t, at3⟩ := ta
 have hle3 := lTok_le hl3 hle2
 rw [hl3] at hp3
 simp only [] at hp3
 simp only []
 unfold lTail
 by_cases hv : (vget (b.drop at3)).2.2 ≠ 0
 ·rw [if_pos hv]
  have e : (aRest b (gKind b) (1, 0)).1.2 = (vget (b.drop at3)).2.2 := by unfold aRest; rw [hp3, rvar_fail hv]
  exact hbad _ hv e
 rw [if_neg hv]
 have e : aRest b (gKind b) (1, 0) = ((at3 + (vget (b.drop at3)).2.1, 0), (vget (b.drop at3)).1) := by unfold aRest; rw [hp3, rvar_ok (by simpa using hv)]
 have hmany := vget_many (b.drop at3)
 rw [List.length_drop] at hmany
 have hs := aheadS_long hl
 rw [hfi, e] at hs
 generalize (vget (b.drop at3)).1 = n at *
 generalize (vget (b.drop at3)).2.1 = m at *
 simp only [] at hs ⊢
 by_cases hn : b.length < at3 + m + min n 1073741824
 ·rw [if_pos hn]
  rw [decide_eq_true (by omega), rfail_yes] at hs
  exact aheadP_bad (by rw [hs]) (by decide)
 ·rw [if_neg hn]
  rw [decide_eq_false (by omega), rfail_ok] at hs
  unfold aheadP
  rw [hs]
  simp only [ne_eq, not_true_eq_false, if_false]
  rw [show min n b.length = min n 1073741824 by omega]
end Hdr

end
section
namespace Vlt
open Go Go.Rw Aes Hdr Gcm
def Agree (b c : List UInt8) (at_ : Nat) : Prop := ∀ i, 1 ≤ i → i < at_ → nth c i = nth b i
theorem nth_get {l : List UInt8} {i : Nat} (h : i < l.length) : l[i]? = some (nth l i) := by simp [nth, h]
theorem agree_cut {b c : List UInt8} {at_ i n : Nat} (h : Agree b c at_) (hb : at_ ≤ b.length) (hc : at_ ≤ c.length) (h1 : 1 ≤ i) (h2 : i + n ≤ at_) : (c.drop i).take n = (b.drop i).take n := by
 apply List.ext_getElem?
 intro k
 rw [List.getElem?_take, List.getElem?_take]
 split
 ·rw [List.getElem?_drop, List.getElem?_drop, nth_get (by omega), nth_get (by omega), h (i + k) (by omega) (by omega)]
 ·rfl
theorem nth_drop (l : List UInt8) (i k : Nat) : nth (l.drop i) k = nth l (i + k) := by unfold nth; rw [List.getElem?_drop]
theorem vnum_take (l : List UInt8) (h : vmany (nth l 0) ≤ l.length) : vnum l = vnum (l.take (vmany (nth l 0))) := by
 have hp := vmany_pos (nth l 0)
 have h0 : nth (l.take (vmany (nth l 0))) 0 = nth l 0 := by
  show (l.take (vmany (nth l 0)))[0]?.getD 0 = l[0]?.getD 0
  rw [List.getElem?_take, if_pos (Nat.lt_of_lt_of_le Nat.zero_lt_one hp)]
 unfold vnum
 rw [h0, List.take_take, Nat.min_self]
theorem vget_agree {b c : List UInt8} {at_ i : Nat} (h : Agree b c at_) (hb : at_ ≤ b.length) (hc : at_ ≤ c.length) (h1 : 1 ≤ i) (h0 : (vget (b.drop i)).2.2 = 0) (h2 : i + (vget (b.drop i)).2.1 ≤ at_) : vget (c.drop i) = vget (b.drop i) := by
 have hm : ¬ ((b.drop i).length = 0 ∨ (b.drop i).length < vmany (nth (b.drop i) 0)) := by
  intro hh
  unfold vget at h0
  rw [if_pos hh] at h0
  exact absurd h0 (by decide)
 have e1 : vget (b.drop i) = (vnum (b.drop i), vmany (nth (b.drop i) 0), 0) := by unfold vget; rw [if_neg hm]
 rw [e1] at h2 ⊢
 simp only [] at h2
 have hp := vmany_pos (nth (b.drop i) 0)
 have e2 : nth (c.drop i) 0 = nth (b.drop i) 0 := by rw [nth_drop, nth_drop]; exact h (i + 0) (by omega) (by omega)
 have hm2 : ¬ ((c.drop i).length = 0 ∨ (c.drop i).length < vmany (nth (c.drop i) 0)) := by rw [e2, List.length_drop]; omega
 unfold vget
 rw [if_neg hm2, e2, vnum_take (c.drop i) (by rw [e2, List.length_drop]; omega), vnum_take (b.drop i) (by rw [List.length_drop] at hm ⊢; omega), e2, agree_cut h hb hc h1 h2]
theorem lPart_agree {b c : List UInt8} {at_ i at1 : Nat} {eight : Bool} {d : List UInt8} (h : Agree b c at_) (hb : at_ ≤ b.length) (hc : at_ ≤ c.length) (h1 : 1 ≤ i) (hl : lPart b i eight = .ok (d, at1)) (h2 : at1 ≤ at_) : lPart c i eight = .ok (d, at1) ∧ i < at1 := by
 unfold lPart at hl
 split at hl
 ·cases hl
 split at hl
 ·cases hl
 split at hl
 ·cases hl
 rename_i q1 q2 q3
 injection hl with hl
 injection hl with e1 e2
 have en : nth c i = nth b i := h i h1 (by omega)
 refine ⟨?_, by omega⟩
 unfold lPart
 rw [if_neg (by omega), en, if_neg q2, if_neg (by omega), agree_cut h hb hc (by omega) (by omega), e1, e2]
theorem lTok_agree {b c : List UInt8} {at_ i at1 k : Nat} {t : List UInt8} (h : Agree b c at_) (hb : at_ ≤ b.length) (hc : at_ ≤ c.length) (h1 : 1 ≤ i) (hl : lTok b k i = .ok (t, at1)) (h2 : at1 ≤ at_) : lTok c k i = .ok (t, at1) ∧ i ≤ at1 := by
 unfold lTok at hl
 split at hl
 ·rename_i q
  injection hl with hl
  injection hl with e1 e2
  refine ⟨?_, by omega⟩
  unfold lTok
  rw [if_pos q, e1, e2]
 split at hl
 ·cases hl
 split at hl
 ·cases hl
 split at hl
 ·cases hl
 rename_i q1 q2 q3 q4
 injection hl with hl
 injection hl with e1 e2
 have hv := vget_agree h hb hc h1 (by simpa using q2) (by omega)
 refine ⟨?_, by omega⟩
 unfold lTok
 rw [if_neg q1, hv, if_neg q2, if_neg q3, if_neg (by omega), agree_cut h hb hc (by omega) (by omega), e1, e2]
theorem lPart_lt {b : List UInt8} {i at1 : Nat} {eight : Bool} {d : List UInt8} (hl : lPart b i eight = .ok (d, at1)) : i < at1 := by
 unfold lPart at hl
 split at hl
 ·cases hl
 split at hl
 ·cases hl
 split at hl
 ·cases hl
 injection hl with hl
 injection hl with e1 e2
 omega
theorem lTok_ge {b : List UInt8} {i at1 k : Nat} {t : List UInt8} (hl : lTok b k i = .ok (t, at1)) : i ≤ at1 := by
 unfold lTok at hl
 split at hl
 ·injection hl with hl
  injection hl with e1 e2
  omega
 split at hl
 ·cases hl
 split at hl
 ·cases hl
 split at hl
 ·cases hl
 injection hl with hl
 injection hl with e1 e2
 omega
structure SameTop (F G : UInt8) : Prop where
 b64 : G &&& 64 = F &&& 64
 b128 : G &&& 128 = F &&& 128
 kind : F &&& 128 ≠ 0 → n8 G / 16 % 4 = n8 F / 16 % 4
theorem lead_agree {b c : List UInt8} {h : Hd} {at_ told : Nat} (hl : lead b true = .ok (h, at_, told)) (hag : Agree b c at_) (hb : at_ ≤ b.length) (hc : at_ ≤ c.length) (hbl : h.long = false → b.length = at_ + told) (hcl : c.length = at_ + told) (hst : SameTop (nth b 0) (nth c 0)) :
  1 ≤ at_ ∧ (h.long = true → h.spin = false ∧ h.phase = false) ∧
  lead c false = if nth c 0 &&& (if h.long then 12 else 24) ≠ 0 then .error 5 else
   .ok ({ h with nl := (n8 (nth c 0 &&& 3) + 1 : Nat), spin := if h.long then h.spin else (nth c 0 &&& 32 != 0), phase := if h.long then h.phase else (nth c 0 &&& 4 != 0) }, at_, told) := by
 unfold lead at hl
 split at hl
 ·cases hl
 split at hl
 ·cases hl
 rename_i q0 q64
 have hc0 : c.length ≠ 0 → ¬ c.length = 0 := id
 split at hl
 ·rename_i q128
  rw [if_neg (by simp)] at hl
  split at hl
  ·cases hl
  rename_i q9
  injection hl with hl
  injection hl with e1 e2
  injection e2 with e2 e3
  subst e1 e2 e3
  refine ⟨by omega, fun hh => (by cases hh), ?_⟩
  unfold lead
  rw [if_neg (by omega), hst.b64, if_neg q64, hst.b128, if_pos q128]
  simp only [Bool.false_eq_true, if_false]
  by_cases h24 : nth c 0 &&& 24 ≠ 0
  ·rw [if_pos ⟨h24, trivial⟩, if_pos h24]
  ·rw [if_neg (by intro hh; exact h24 hh.1), if_neg h24, if_neg (by omega), agree_cut hag hb hc (by omega) (by omega)]
   rw [show c.length - 9 = b.length - 9 by omega]
 ·rename_i q128
  split at hl
  ·cases hl
  rename_i qk
  split at hl
  ·cases hl
  rename_i q5
  have hk := hst.kind q128
  cases hl1 : lPart b 5 true with
  | error e => rw [hl1] at hl; cases hl
  | ok da =>
  obtain ⟨d, at1⟩ := da
  rw [hl1] at hl
  simp only [] at hl
  cases hl2 : lPart b at1 false with
  | error e => rw [hl2] at hl; cases hl
  | ok sa =>
  obtain ⟨sr, at2⟩ := sa
  rw [hl2] at hl
  simp only [] at hl
  cases hl3 : lTok b (n8 (nth b 0) / 16 % 4) at2 with
  | error e => rw [hl3] at hl; cases hl
  | ok ta =>
  obtain ⟨t, at3⟩ := ta
  rw [hl3] at hl
  simp only [] at hl
  unfold lTail at hl
  split at hl
  ·cases hl
  rename_i qv
  injection hl with hl
  injection hl with e1 e2
  injection e2 with e2 e3
  have g1 := lPart_lt hl1
  have g2 := lPart_lt hl2
  have g3 := lTok_ge hl3
  obtain ⟨r1, -⟩ := lPart_agree hag hb hc (by omega) hl1 (by omega)
  obtain ⟨r2, -⟩ := lPart_agree hag hb hc (by omega) hl2 (by omega)
  obtain ⟨r3, -⟩ := lTok_agree hag hb hc (by omega) hl3 (by omega)
  have r4 := vget_agree hag hb hc (i := at3) (by omega) (by simpa using qv) (by omega)
  subst e1
  refine ⟨by omega, fun _ => ⟨rfl, rfl⟩, ?_⟩
  unfold lead
  rw [if_neg (by omega), hst.b64, if_neg q64, hst.b128, if_neg q128, hk]
  simp only [if_true]
  by_cases h12 : nth c 0 &&& 12 ≠ 0
  ·rw [if_pos (.inr ⟨h12, trivial⟩), if_pos h12]
  ·rw [if_neg (by intro hh; rcases hh with hh | hh; exact qk (.inl hh); exact h12 hh.1), if_neg h12, if_neg (by omega), r1]
   simp only []
   rw [r2]
   simp only []
   rw [r3]
   simp only []
   unfold lTail
   rw [r4, if_neg qv, agree_cut hag hb hc (by omega) (by omega), e2, e3]
theorem mset_nth (m : List UInt8) (at_ : Nat) (l : List UInt8) : ∀ k, at_ + k ≤ l.length → ∀ j, nth (mset m at_ l k) j = if at_ ≤ j ∧ j < at_ + k then nth l j ^^^ nth m (1 + (j - at_)) else nth l j
 | 0, _, j => by rw [if_neg (by omega)]; rfl
 | k + 1, hk, j => by
  have ih := mset_nth m at_ l k (by omega)
  rw [mset, nth_set _ _ _ _ (by rw [mset_length]; omega)]
  by_cases e : j = at_ + k
  ·rw [if_pos e, ih, if_neg (by omega), if_pos (by omega), e, Nat.add_sub_cancel_left]
  ·rw [if_neg e, ih]
   by_cases h : at_ ≤ j ∧ j < at_ + k
   ·rw [if_pos h, if_pos (by omega)]
   ·rw [if_neg h, if_neg (by omega)]
theorem maskW_0 (msk l : List UInt8) (at_ many : Nat) (h1 : 1 ≤ at_) (h4 : many ≤ 4) (hl : at_ + 20 ≤ l.length) : nth (maskW msk l at_ many) 0 = nth l 0 ^^^ (nth (block msk (smp l at_)) 0 &&& lowB (nth l 0)) := by
 have hb := (mmany_bd (mfirst (block msk (smp l at_)) l) many h4).2
 rw [maskW, mset_nth _ _ _ _ (by rw [mfirst_length]; omega), if_neg (by omega), mfirst, nth_set _ _ _ _ (by omega), if_pos rfl]
theorem maskW_agree (msk l : List UInt8) (at_ many : Nat) (h4 : many ≤ 4) (hl : at_ + 20 ≤ l.length) : Agree l (maskW msk l at_ many) at_ := by
 intro i h1 h2
 have hb := (mmany_bd (mfirst (block msk (smp l at_)) l) many h4).2
 rw [maskW, mset_nth _ _ _ _ (by rw [mfirst_length]; omega), if_neg (by omega), mfirst, nth_set _ _ _ _ (by omega), if_neg (by omega)]
theorem xor_and {F X m k : UInt8} (h : m &&& k = 0) : (F ^^^ (X &&& m)) &&& k = F &&& k := by
 have e : X &&& m &&& k = 0 := by rw [UInt8.and_assoc, h]; simp
 have d : (F ^^^ (X &&& m)) &&& k = (F &&& k) ^^^ (X &&& m &&& k) := by
  apply UInt8.toBitVec_inj.1
  simp only [UInt8.toBitVec_and, UInt8.toBitVec_xor]
  apply BitVec.eq_of_getElem_eq
  intro i hi
  simp only [BitVec.getElem_and, BitVec.getElem_xor]
  cases F.toBitVec[i] <;> cases X.toBitVec[i] <;> cases m.toBitVec[i] <;> cases k.toBitVec[i] <;> rfl
 rw [d, e]; simp
set_option maxRecDepth 20000 in
theorem kind_48 : ∀ G : Fin 256, n8 (UInt8.ofNat G.1) / 16 % 4 = n8 (UInt8.ofNat G.1 &&& 48) / 16 := by decide
theorem kind_and (G : UInt8) : n8 G / 16 % 4 = n8 (G &&& 48) / 16 := by
 have := kind_48 ⟨n8 G, n8_lt G⟩
 simpa only [Hdr.ofNat_n8] using this
theorem low_cases (F : UInt8) : (lowB F = 31 ∧ F &&& 128 = 0) ∨ (lowB F = 15 ∧ F &&& 128 ≠ 0) := by
 unfold lowB
 by_cases h : F &&& 128 = 0
 ·left; rw [if_pos (by rw [h]; rfl)]; exact ⟨rfl, h⟩
 ·right; rw [if_neg (by simpa using h)]; exact ⟨rfl, h⟩
theorem sameTop (F X : UInt8) : SameTop F (F ^^^ (X &&& lowB F)) := by
 rcases low_cases F with ⟨e, h⟩ | ⟨e, h⟩
 ·rw [e]
  exact ⟨xor_and (by decide), xor_and (by decide), fun hh => absurd h hh⟩
 ·rw [e]
  exact ⟨xor_and (by decide), xor_and (by decide), fun _ => by rw [kind_and, kind_and F, xor_and (by decide)]⟩
def hdU (h : Hd) (c : List UInt8) : Hd := { h with nl := (n8 (nth c 0 &&& 3) + 1 : Nat), spin := if h.long then h.spin else (nth c 0 &&& 32 != 0), phase := if h.long then h.phase else (nth c 0 &&& 4 != 0) }
def nlU (c : List UInt8) : Nat := n8 (nth c 0 &&& 3) + 1
def oddU (h : Hd) (c : List UInt8) : UInt8 := nth c 0 &&& (if h.long then 12 else 24)
def openN (key iv c : List UInt8) (h : Hd) (m : Nat) : Hd × List UInt8 × Int :=
 if (opened key (nonce iv (UInt64.ofNat h.num)) (c.drop m) (c.take m)).1 ≠ 0 then (hd0, [], 7) else (h, (opened key (nonce iv (UInt64.ofNat h.num)) (c.drop m) (c.take m)).2, 0)
def openC (key iv c : List UInt8) (h : Hd) (at_ largest : Nat) (any : Bool) : Hd × List UInt8 × Int :=
 if oddU h c ≠ 0 then (hd0, [], 5)
 else openN key iv c { hdU h c with num := full (num ((c.drop at_).take (nlU c))) (nlU c) largest any } (at_ + nlU c)
def openV (key iv msk b : List UInt8) (largest : Nat) (any : Bool) : Hd × List UInt8 × Int :=
 match lead b true with
 | .error e => (hd0, [], e)
 | .ok (h, at_, told) => if told < 20 ∨ b.length < at_ + told then (hd0, [], 3) else openC key iv (maskW msk (b.take (at_ + told)) at_ 0) h at_ largest any
theorem nlU_bd (c : List UInt8) : 1 ≤ nlU c ∧ nlU c ≤ 4 := by
 have := Vlt.and3_lt (nth c 0)
 unfold nlU; omega
theorem lead_facts {b : List UInt8} {m : Bool} {h : Hd} {at_ told : Nat} (hl : lead b m = .ok (h, at_, told)) : 5 ≤ at_ ∧ (h.long = false → b.length = at_ + told) := by
 unfold lead at hl
 split at hl
 ·cases hl
 split at hl
 ·cases hl
 split at hl
 ·split at hl
  ·cases hl
  split at hl
  ·cases hl
  injection hl with hl
  injection hl with e1 e2
  injection e2 with e2 e3
  exact ⟨by omega, fun _ => by omega⟩
 ·split at hl
  ·cases hl
  split at hl
  ·cases hl
  split at hl
  ·cases hl
  rename_i hl1
  split at hl
  ·cases hl
  rename_i hl2
  split at hl
  ·cases hl
  rename_i hl3
  unfold lTail at hl
  split at hl
  ·cases hl
  injection hl with hl
  injection hl with e1 e2
  injection e2 with e2 e3
  have g1 := lPart_lt hl1
  have g2 := lPart_lt hl2
  have g3 := lTok_ge hl3
  subst e1
  exact ⟨by omega, fun hh => (by cases hh)⟩
theorem lead_bd {b : List UInt8} {m : Bool} {h : Hd} {at_ told : Nat} (hb : b.length ≤ 1000000) (hl : lead b m = .ok (h, at_, told)) : at_ + told ≤ 2147483648 := by
 unfold lead at hl
 split at hl
 ·cases hl
 split at hl
 ·cases hl
 split at hl
 ·split at hl
  ·cases hl
  split at hl
  ·cases hl
  injection hl with hl
  injection hl with e1 e2
  injection e2 with e2 e3
  omega
 ·split at hl
  ·cases hl
  split at hl
  ·cases hl
  split at hl
  ·cases hl
  rename_i hl1
  split at hl
  ·cases hl
  rename_i hl2
  split at hl
  ·cases hl
  rename_i t3 at3 hl3
  unfold lTail at hl
  split at hl
  ·cases hl
  injection hl with hl
  injection hl with e1 e2
  injection e2 with e2 e3
  have g2 := lPart_le hl2
  have g3 := lTok_le hl3 g2
  have hm := vget_many8 (b.drop at3)
  omega
theorem get_unmask {b msk : List UInt8} {h : Hd} {at_ told : Nat} (hbl : b.length ≤ 1000000) (hl : lead b true = .ok (h, at_, told)) (h20 : 20 ≤ told) (hlen : at_ + told ≤ b.length) :
  1 ≤ at_ ∧ get (maskW msk (b.take (at_ + told)) at_ 0) =
   if oddU h (maskW msk (b.take (at_ + told)) at_ 0) ≠ 0 then (hd0, 0, 0, 5)
   else ({ hdU h (maskW msk (b.take (at_ + told)) at_ 0) with num := num (((maskW msk (b.take (at_ + told)) at_ 0).drop at_).take (nlU (maskW msk (b.take (at_ + told)) at_ 0))) }, at_ + nlU (maskW msk (b.take (at_ + told)) at_ 0), told - nlU (maskW msk (b.take (at_ + told)) at_ 0), 0) := by
 have hlt : (b.take (at_ + told)).length = at_ + told := by rw [List.length_take]; omega
 have hag0 := maskW_agree msk (b.take (at_ + told)) at_ 0 (by omega) (by omega)
 have hcl : (maskW msk (b.take (at_ + told)) at_ 0).length = at_ + told := by rw [maskW_length, hlt]
 have hag : Agree b (maskW msk (b.take (at_ + told)) at_ 0) at_ := fun i h1 h2 => by
  rw [hag0 i h1 h2]; unfold nth; rw [List.getElem?_take, if_pos (by omega)]
 have h0 : nth (b.take (at_ + told)) 0 = nth b 0 := by
  show (b.take (at_ + told))[0]?.getD 0 = b[0]?.getD 0
  rw [List.getElem?_take, if_pos (by omega)]
 obtain ⟨hat9, hsh⟩ := lead_facts hl
 have hat1 : 1 ≤ at_ := by omega
 have hst : SameTop (nth b 0) (nth (maskW msk (b.take (at_ + told)) at_ 0) 0) := by
  rw [maskW_0 msk _ at_ 0 hat1 (by omega) (by omega), h0]
  exact sameTop _ _
 generalize maskW msk (b.take (at_ + told)) at_ 0 = c at *
 refine ⟨hat1, ?_⟩
 obtain ⟨-, hsp, hlc⟩ := lead_agree hl hag (by omega) (by omega) hsh hcl hst
 have hn := nlU_bd c
 rw [get_rget c (by omega)]
 unfold rget
 rw [hlc]
 by_cases ho : oddU h c ≠ 0
 ·rw [if_pos ho, if_pos (show nth c 0 &&& (if h.long = true then 12 else 24) ≠ 0 from ho)]
 ·rw [if_neg ho, if_neg (show ¬ nth c 0 &&& (if h.long = true then 12 else 24) ≠ 0 from ho)]
  simp only [Int.toNat_natCast]
  rw [if_neg (by intro hh; have := hh.2; unfold nlU at hn; omega)]
  rw [if_neg (by unfold nlU at hn; omega), if_neg (by omega)]
  rfl
end Vlt

end
section
namespace Vlt
open Go Go.Rw Aes Hdr Gcm
theorem lead_agree2 {b c : List UInt8} {fl : Bool} {h : Hd} {at_ told : Nat} (hl : lead b fl = .ok (h, at_, told)) (hag : Agree b c at_) (hb : at_ ≤ b.length) (hc : at_ ≤ c.length) (hcl : h.long = false → c.length = b.length) (hst : SameTop (nth b 0) (nth c 0)) :
  (h.long = true → h.spin = false ∧ h.phase = false) ∧ h.num = 0 ∧ hdU h b = h ∧ (fl = false → oddU h b = 0) ∧ lead c true = .ok (hdU h c, at_, told) := by
 unfold lead at hl
 split at hl
 ·cases hl
 split at hl
 ·cases hl
 rename_i q0 q64
 split at hl
 ·rename_i q128
  split at hl
  ·cases hl
  rename_i q24
  split at hl
  ·cases hl
  rename_i q9
  injection hl with hl
  injection hl with e1 e2
  injection e2 with e2 e3
  subst e1 e2 e3
  have hcl' := hcl rfl
  refine ⟨fun hh => (by cases hh), rfl, rfl, fun hf => ?_, ?_⟩
  ·show nth b 0 &&& 24 = 0
   by_cases h24 : nth b 0 &&& 24 = 0
   ·exact h24
   ·exact absurd ⟨h24, hf⟩ q24
  ·unfold lead
   rw [if_neg (by omega), hst.b64, if_neg q64, hst.b128, if_pos q128, if_neg (by simp), if_neg (by omega), agree_cut hag hb hc (by omega) (by omega), hcl']
   rfl
 ·rename_i q128
  split at hl
  ·cases hl
  rename_i qk
  split at hl
  ·cases hl
  rename_i q5
  have hk := hst.kind q128
  cases hl1 : lPart b 5 true with
  | error e => rw [hl1] at hl; cases hl
  | ok da =>
  obtain ⟨d, at1⟩ := da
  rw [hl1] at hl
  simp only [] at hl
  cases hl2 : lPart b at1 false with
  | error e => rw [hl2] at hl; cases hl
  | ok sa =>
  obtain ⟨sr, at2⟩ := sa
  rw [hl2] at hl
  simp only [] at hl
  cases hl3 : lTok b (n8 (nth b 0) / 16 % 4) at2 with
  | error e => rw [hl3] at hl; cases hl
  | ok ta =>
  obtain ⟨t, at3⟩ := ta
  rw [hl3] at hl
  simp only [] at hl
  unfold lTail at hl
  split at hl
  ·cases hl
  rename_i qv
  injection hl with hl
  injection hl with e1 e2
  injection e2 with e2 e3
  have g1 := lPart_lt hl1
  have g2 := lPart_lt hl2
  have g3 := lTok_ge hl3
  obtain ⟨r1, -⟩ := lPart_agree hag hb hc (by omega) hl1 (by omega)
  obtain ⟨r2, -⟩ := lPart_agree hag hb hc (by omega) hl2 (by omega)
  obtain ⟨r3, -⟩ := lTok_agree hag hb hc (by omega) hl3 (by omega)
  have r4 := vget_agree hag hb hc (i := at3) (by omega) (by simpa using qv) (by omega)
  subst e1
  refine ⟨fun _ => ⟨rfl, rfl⟩, rfl, rfl, fun hf => ?_, ?_⟩
  ·show nth b 0 &&& 12 = 0
   by_cases h12 : nth b 0 &&& 12 = 0
   ·exact h12
   ·exact absurd (.inr ⟨h12, hf⟩) qk
  ·unfold lead
   rw [if_neg (by omega), hst.b64, if_neg q64, hst.b128, if_neg q128, hk, if_neg (by intro hh; rcases hh with hh | hh; exact qk (.inl hh); exact absurd hh.2 (by simp)), if_neg (by omega), r1]
   simp only []
   rw [r2]
   simp only []
   rw [r3]
   simp only []
   unfold lTail
   rw [r4, if_neg qv, agree_cut hag hb hc (by omega) (by omega), e2, e3]
   rfl
theorem lead_of_get {l : List UInt8} {hd : Hd} {m rest : Nat} (hl : l.length ≤ 1000000) (hg : get l = (hd, m, rest, 0)) :
  ∃ h at_ told, lead l false = .ok (h, at_, told) ∧ m = at_ + h.nl.toNat ∧ hd = { h with num := num ((l.drop at_).take h.nl.toNat) } ∧ rest = told - h.nl.toNat ∧ at_ + told ≤ l.length ∧ at_ + h.nl.toNat ≤ l.length ∧ (h.long = true → h.nl ≤ told) := by
 rw [get_rget l hl] at hg
 unfold rget at hg
 cases e : lead l false with
 | error x =>
  rw [e] at hg
  have := lead_err e
  injection hg with h1 h2
  injection h2 with h2 h3
  injection h3 with h3 h4
  exact absurd h4 this
 | ok q =>
  obtain ⟨h, at_, told⟩ := q
  rw [e] at hg
  simp only [] at hg
  split at hg
  ·injection hg with h1 h2
   injection h2 with h2 h3
   injection h3 with h3 h4
   exact absurd h4 (by decide)
  split at hg
  ·injection hg with h1 h2
   injection h2 with h2 h3
   injection h3 with h3 h4
   exact absurd h4 (by decide)
  split at hg
  ·injection hg with h1 h2
   injection h2 with h2 h3
   injection h3 with h3 h4
   exact absurd h4 (by decide)
  rename_i q1 q2 q3
  injection hg with h1 h2
  injection h2 with h2 h3
  injection h3 with h3 h4
  exact ⟨h, at_, told, rfl, h2.symm, h1.symm, h3.symm, by omega, by omega, fun hh => by
   by_cases hq : (told : Int) < h.nl
   ·exact absurd ⟨hh, hq⟩ q1
   ·omega⟩
theorem enc_enc (key nonce text : List UInt8) : enc key nonce (enc key nonce text) = text := by
 apply ext16 (n := text.length) (by rw [enc_length, enc_length]) rfl
 intro i hi
 have e1 : nth (enc key nonce (enc key nonce text)) i = encF key nonce (enc key nonce text) i := by simp [nth, enc, hi]
 have e2 : nth (enc key nonce text) i = encF key nonce text i := by simp [nth, enc, hi]
 rw [e1, encF, e2, encF, UInt8.xor_assoc, UInt8.xor_self, UInt8.xor_zero]
theorem open_sealed (key nonce text data : List UInt8) : opened key nonce (sealed key nonce text data) data = (0, text) := by
 have hl : (sealed key nonce text data).length = text.length + 16 := sealed_length _ _ _ _
 have e1 : (sealed key nonce text data).take text.length = enc key nonce text := by
  rw [sealed, List.take_append_of_le_length (by rw [enc_length]; exact Nat.le_refl _), List.take_of_length_le (by rw [enc_length]; exact Nat.le_refl _)]
 have e2 : (sealed key nonce text data).drop text.length = tag key nonce (enc key nonce text) data := by
  rw [sealed, List.drop_append, List.drop_eq_nil_of_le (by rw [enc_length]; exact Nat.le_refl _), enc_length, Nat.sub_self, List.drop_zero, List.nil_append]
 unfold opened
 rw [if_neg (by omega), show (sealed key nonce text data).length - 16 = text.length by omega, e1, e2, if_pos rfl, enc_enc]
theorem nth_app_l {a b : List UInt8} {i : Nat} (h : i < a.length) : nth (a ++ b) i = nth a i := by unfold nth; rw [List.getElem?_append_left h]
theorem ext_nth {a b : List UInt8} (h : a.length = b.length) (e : ∀ i, i < a.length → nth a i = nth b i) : a = b := by
 apply List.ext_getElem?
 intro i
 by_cases hi : i < a.length
 ·rw [nth_get hi, nth_get (by omega), e i hi]
 ·rw [List.getElem?_eq_none (by omega), List.getElem?_eq_none (by omega)]
theorem smp_mask (msk l : List UInt8) (at_ many : Nat) (h1 : 1 ≤ at_) (h4 : many ≤ 4) (hl : at_ + 20 ≤ l.length) : smp (maskW msk l at_ many) at_ = smp l at_ := by
 have hb := (mmany_bd (mfirst (block msk (smp l at_)) l) many h4).2
 apply ext_nth
 ·rw [smp_length _ _ (by rw [maskW_length]; exact hl), smp_length _ _ hl]
 intro i hi
 rw [smp_length _ _ (by rw [maskW_length]; exact hl)] at hi
 have e : ∀ x : List UInt8, nth (smp x at_) i = nth x (at_ + 4 + i) := fun x => by
  unfold smp nth
  rw [List.getElem?_drop, List.getElem?_take, if_pos (by omega)]
 rw [e, e, maskW, mset_nth _ _ _ _ (by rw [mfirst_length]; omega), if_neg (by omega), mfirst, nth_set _ _ _ _ (by omega), if_neg (by omega)]
theorem mask_mask (msk l : List UInt8) (at_ : Nat) (h1 : 1 ≤ at_) (hl : at_ + 20 ≤ l.length) : maskW msk (maskW msk l at_ (nlU l)) at_ 0 = l := by
 have hn := nlU_bd l
 have hs := smp_mask msk l at_ (nlU l) h1 hn.2 hl
 have hbl : (maskW msk l at_ (nlU l)).length = l.length := maskW_length ..
 have h0 := maskW_0 msk l at_ (nlU l) h1 hn.2 hl
 have hm : mmany (mfirst (block msk (smp l at_)) l) (nlU l) = nlU l := by unfold mmany; rw [if_neg (by omega)]
 have hj : ∀ j, nth (maskW msk l at_ (nlU l)) j = if at_ ≤ j ∧ j < at_ + nlU l then nth l j ^^^ nth (block msk (smp l at_)) (1 + (j - at_)) else if j = 0 then nth l 0 ^^^ (nth (block msk (smp l at_)) 0 &&& lowB (nth l 0)) else nth l j := fun j => by
  rw [maskW, hm, mset_nth _ _ _ _ (by rw [mfirst_length]; omega), mfirst, nth_set _ _ _ _ (by omega)]
  by_cases hh : at_ ≤ j ∧ j < at_ + nlU l
  ·rw [if_pos hh, if_pos hh, if_neg (by omega)]
  ·rw [if_neg hh, if_neg hh]
 generalize maskW msk l at_ (nlU l) = b at *
 have hst := sameTop (nth l 0) (nth (block msk (smp l at_)) 0)
 rw [← h0] at hst
 have hlow : lowB (nth b 0) = lowB (nth l 0) := by unfold lowB; rw [hst.b128]
 have hf : nth (mfirst (block msk (smp b at_)) b) 0 = nth l 0 := by
  rw [mfirst, nth_set _ _ _ _ (by omega), if_pos rfl, hs, hlow, h0, UInt8.xor_assoc, UInt8.xor_self, UInt8.xor_zero]
 have hmm : mmany (mfirst (block msk (smp b at_)) b) 0 = nlU l := by unfold mmany; rw [if_pos rfl, hf]; rfl
 apply ext_nth
 ·rw [maskW_length, hbl]
 intro j hlt
 rw [maskW_length] at hlt
 rw [maskW, hmm, mset_nth _ _ _ _ (by rw [mfirst_length]; omega)]
 have hjj := hj j
 by_cases hin : at_ ≤ j ∧ j < at_ + nlU l
 ·rw [if_pos hin] at hjj ⊢
  rw [mfirst, nth_set _ _ _ _ (by omega), if_neg (by omega), hjj, hs, UInt8.xor_assoc, UInt8.xor_self, UInt8.xor_zero]
 ·rw [if_neg hin] at hjj ⊢
  by_cases hz : j = 0
  ·rw [hz]; exact hf
  ·rw [if_neg hz] at hjj
   rw [mfirst, nth_set _ _ _ _ (by omega), if_neg (by omega), hjj]
theorem open_pack0 {key iv msk H z C : List UInt8} {tl : Nat} {hd : Hd} {nl largest : Nat} {any : Bool} (hlen : H.length + (tl + 16) + z.length ≤ 1000000) (hsl : C.length = tl + 16)
  (hg : get (H ++ (C ++ z)) = (hd, H.length, tl + 16, 0)) (hz : hd.long = false → z = []) (hnl : hd.nl = (nl : Nat)) (h1 : 1 ≤ nl) (h4 : nl ≤ 4) (ht : 4 ≤ nl + tl) :
  openV key iv msk (maskW msk (H ++ C) (H.length - nl) nl ++ z) largest any = openN key iv (H ++ C) { hd with num := full hd.num (nl : Nat) largest any } H.length := by
 obtain ⟨h, at_, told, hle, hm, hhd, hre, hb1, hb2, hb3⟩ := lead_of_get (by simp; omega) hg
 have hnl2 : h.nl = (nl : Nat) := by rw [hhd] at hnl; exact hnl
 rw [hnl2, Int.toNat_natCast] at hm hre hb2 hhd
 have hat : H.length - nl = at_ := by omega
 rw [hat]
 have htold : told = tl + 16 + nl := by omega
 have ha5 := (lead_facts hle).1
 have hl0 : (H ++ C).length = at_ + told := by rw [List.length_append]; omega
 have hag0 := maskW_agree msk (H ++ C) at_ nl h4 (by omega)
 have h00 := maskW_0 msk (H ++ C) at_ nl (by omega) h4 (by omega)
 have hbl : (maskW msk (H ++ C) at_ nl).length = at_ + told := by rw [maskW_length, hl0]
 have hst : SameTop (nth (H ++ C) 0) (nth (maskW msk (H ++ C) at_ nl) 0) := by rw [h00]; exact sameTop _ _
 have hn0 : nth (H ++ (C ++ z)) 0 = nth (H ++ C) 0 := by rw [← List.append_assoc]; exact nth_app_l (by omega)
 have hB0 : nth (maskW msk (H ++ C) at_ nl ++ z) 0 = nth (maskW msk (H ++ C) at_ nl) 0 := nth_app_l (by omega)
 have hag : Agree (H ++ (C ++ z)) (maskW msk (H ++ C) at_ nl ++ z) at_ := fun i i1 i2 => by
  rw [← List.append_assoc, nth_app_l (by omega), nth_app_l (by omega)]; exact hag0 i i1 i2
 have hshort : h.long = false → z = [] := by rw [hhd] at hz; exact hz
 obtain ⟨hsp, hnum0, hself, hodd, hlb⟩ := lead_agree2 hle hag (by omega) (by simp; omega) (fun hh => by rw [hshort hh]; simp; omega) (by rw [hn0, hB0]; exact hst)
 have hnU : nlU (H ++ C) = nl := by
  have e := congrArg Hd.nl hself
  have e2 : ((n8 (nth (H ++ (C ++ z)) 0 &&& 3) + 1 : Nat) : Int) = h.nl := e
  rw [hn0, hnl2] at e2
  unfold nlU; omega
 have hmk := mask_mask msk (H ++ C) at_ (by omega) (by omega)
 rw [hnU] at hmk
 unfold openV
 rw [hlb]
 simp only []
 rw [if_neg (by simp; omega), List.take_append_of_le_length (by omega), List.take_of_length_le (by omega), hmk]
 unfold openC
 have ho : oddU (hdU h (maskW msk (H ++ C) at_ nl ++ z)) (H ++ C) = 0 := by
  have := hodd rfl
  unfold oddU at this ⊢
  rw [hn0] at this
  exact this
 have hh : hdU (hdU h (maskW msk (H ++ C) at_ nl ++ z)) (H ++ C) = h := by
  have e := hself
  unfold hdU at e ⊢
  rw [hn0] at e
  cases hlg : h.long with
  | true => simp only [hlg, if_true] at e ⊢; exact e
  | false => simp only [hlg, Bool.false_eq_true, if_false] at e ⊢; exact e
 rw [if_neg (by simp [ho]), hh, hnU]
 have hnumE : num (((H ++ C).drop at_).take nl) = hd.num := by
  have hA : ∀ x, ((H ++ x).drop at_).take nl = (H.drop at_).take nl := fun x => by rw [List.drop_append_of_le_length (by omega), List.take_append_of_le_length (by rw [List.length_drop]; omega)]
  rw [hhd]
  show num (((H ++ C).drop at_).take nl) = num (((H ++ (C ++ z)).drop at_).take nl)
  rw [hA, hA]
 rw [hnumE, show at_ + nl = H.length by omega, hhd]
 simp only [hnl2]
theorem openN_split {key iv H C : List UInt8} {hd : Hd} : openN key iv (H ++ C) hd H.length = if (opened key (nonce iv (UInt64.ofNat hd.num)) C H).1 ≠ 0 then (hd0, [], 7) else (hd, (opened key (nonce iv (UInt64.ofNat hd.num)) C H).2, 0) := by
 unfold openN
 rw [List.drop_left' rfl, List.take_left' rfl]
theorem open_pack {key iv msk H z text : List UInt8} {u : UInt64} {hd : Hd} {nl largest : Nat} {any : Bool} (hlen : H.length + (text.length + 16) + z.length ≤ 1000000)
  (hg : get (H ++ (sealed key (nonce iv u) text H ++ z)) = (hd, H.length, text.length + 16, 0)) (hz : hd.long = false → z = []) (hnl : hd.nl = (nl : Nat)) (h1 : 1 ≤ nl) (h4 : nl ≤ 4) (ht : 4 ≤ nl + text.length) (hfull : full hd.num (nl : Nat) largest any = n64 u) :
  openV key iv msk (packB key iv msk H text u nl ++ z) largest any = ({ hd with num := n64 u }, text, 0) := by
 have hos := open_sealed key (nonce iv u) text H
 rw [packB, open_pack0 hlen (sealed_length ..) hg hz hnl h1 h4 ht, openN_split, hfull]
 have hu : UInt64.ofNat (n64 u) = u := UInt64.ofNat_toNat
 simp only [hu, hos]
 simp
end Vlt

end
