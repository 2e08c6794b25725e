/- HdrG2; VltA. -/
import Derived.Test.YtjlpppnpdgenfaaMvb3
import Derived.Test.YtjlpppnpdgenfaaMvb5
section
namespace Hdr
open Go.Rw
section
variable {b : List UInt8} {kind : Int} {nl : Nat} {s : Nat × Int}
theorem aVer_bad (h : (aKind kind s).2 ≠ 0) : (aVer b kind s).1 = aKind kind s := by unfold aVer; rw [rnum_bad h]
theorem aDst_bad (h : (aVer b kind s).1.2 ≠ 0) : (aDst b kind s).1 = (aVer b kind s).1 := by unfold aDst; rw [rid_bad h]
theorem aSrc_bad (h : (aDst b kind s).1.2 ≠ 0) : (aSrc b kind s).1 = (aDst b kind s).1 := by unfold aSrc; rw [rid_bad h]
theorem aTokN_bad (h : (aSrc b kind s).1.2 ≠ 0) : (aTokN b kind s).1 = (aSrc b kind s).1 := by unfold aTokN; rw [rvar_bad h]
theorem aTok_bad (hk : kind = 0) (h : (aTokN b kind s).1.2 ≠ 0) : (aTok b kind s).1 = (aTokN b kind s).1 := by
 unfold aTok; rw [if_pos hk, rfail_bad h, rtake_bad h]
theorem aTok_bad2 (h : (aSrc b kind s).1.2 ≠ 0) : (aTok b kind s).1 = (aSrc b kind s).1 := by
 by_cases hk : kind = 0
 ·rw [aTok_bad hk (by rw [aTokN_bad h]; exact h), aTokN_bad h]
 ·unfold aTok; rw [if_neg hk]
theorem aRest_bad (h : (aTok b kind s).1.2 ≠ 0) : (aRest b kind s).1 = (aTok b kind s).1 := by unfold aRest; rw [rvar_bad h]
theorem lNum_bad (h : (aRest b kind s).1.2 ≠ 0) : (lNum b kind nl s).1 = (aRest b kind s).1 := by unfold lNum; rw [rfail_bad h, rnum_bad h]
theorem lEnd_bad (h : (lNum b kind nl s).1.2 ≠ 0) : (lEnd b kind nl s).1 = (lNum b kind nl s).1 := by unfold lEnd; rw [if_pos h]
theorem end_rest (h : (aRest b kind s).1.2 ≠ 0) : (lEnd b kind nl s).1 = (aRest b kind s).1 := by
 have e := lNum_bad (nl := nl) h
 rw [lEnd_bad (by rw [e]; exact h), e]
theorem end_tok (h : (aTok b kind s).1.2 ≠ 0) : (lEnd b kind nl s).1 = (aTok b kind s).1 := by
 have e := aRest_bad h
 rw [end_rest (by rw [e]; exact h), e]
theorem end_src (h : (aSrc b kind s).1.2 ≠ 0) : (lEnd b kind nl s).1 = (aSrc b kind s).1 := by
 have e := aTok_bad2 h
 rw [end_tok (by rw [e]; exact h), e]
theorem end_dst (h : (aDst b kind s).1.2 ≠ 0) : (lEnd b kind nl s).1 = (aDst b kind s).1 := by
 have e := aSrc_bad h
 rw [end_src (by rw [e]; exact h), e]
theorem end_ver (h : (aVer b kind s).1.2 ≠ 0) : (lEnd b kind nl s).1 = (aVer b kind s).1 := by
 have e := aDst_bad h
 rw [end_dst (by rw [e]; exact h), e]
theorem end_kind (h : (aKind kind s).2 ≠ 0) : (lEnd b kind nl s).1 = aKind kind s := by
 have e := aVer_bad (b := b) h
 rw [end_ver (by rw [e]; exact h), e]
theorem end_first (h : s.2 ≠ 0) : (lEnd b kind nl s).1 = s := by
 have e : aKind kind s = s := by unfold aKind; exact rfail_bad h
 rw [end_kind (by rw [e]; exact h), e]
theorem gAll_bad (h : (gFirst b).2 ≠ 0) : (gAll b).1 = gFirst b := by
 unfold gAll
 split
 ·show (lEnd _ _ _ _).1 = _
  have e : gLong b = gFirst b := by unfold gLong; exact rfail_bad h
  rw [e, end_first h]
 ·show (gShortN b).1 = _
  have e : (gShort b).1 = gFirst b := by unfold gShort; rw [rfail_bad h, rtake_bad h]
  unfold gShortN; rw [e, rnum_bad h]
end
theorem get_bad {b : List UInt8} {e : Int} (h : (gAll b).1.2 = e) (he : e ≠ 0) : get b = (hd0, 0, 0, e) := by
 unfold get; rw [h, if_pos he]
theorem kind_odd (n : Nat) : (decide (((n / 16 % 4 : Nat) : Int) ≠ 0) && decide (((n / 16 % 4 : Nat) : Int) ≠ 2)) = decide (n / 16 % 4 % 2 = 1) := by
 have : n / 16 % 4 < 4 := Nat.mod_lt _ (by decide)
 generalize n / 16 % 4 = k at *
 match k, this with
 | 0, _ => rfl
 | 1, _ => rfl
 | 2, _ => rfl
 | 3, _ => rfl
theorem lPart_le {b : List UInt8} {at_ at1 : Nat} {eight : Bool} {d : List UInt8} (h : lPart b at_ eight = .ok (d, at1)) : at1 ≤ b.length := by
 unfold lPart at h
 split at h
 ·cases h
 split at h
 ·cases h
 split at h
 ·cases h
 ·injection h with h
  injection h with _ h
  omega
theorem get_rget (b : List UInt8) (hb : b.length ≤ 1000000) : get b = rget b := by
 unfold rget lead
 by_cases h0 : b.length = 0
 ·rw [if_pos h0]
  have e : (gFirst b).2 = 3 := by
   unfold gFirst; rw [rnum_short (by omega), rfail_bad (by simp)]
  exact get_bad (by rw [gAll_bad (by rw [e]; decide), e]) (by decide)
 rw [if_neg h0]
 have hf1 := rnum1 (b := b) (at_ := 0) (by omega)
 have hby : gByte b = nth b 0 := by unfold gByte; rw [hf1]; exact ofNat_n8 _
 by_cases h1 : nth b 0 &&& 64 = 0
 ·rw [if_pos h1]
  have e : (gFirst b).2 = 5 := by
   unfold gFirst; rw [hby, hf1, h1]; rfl
  exact get_bad (by rw [gAll_bad (by rw [e]; decide), e]) (by decide)
 rw [if_neg h1]
 have hfi : gFirst b = (1, 0) := by
  unfold gFirst; rw [hby, hf1, show (nth b 0 &&& 64 == 0) = false by simpa using h1]; rfl
 by_cases h2 : nth b 0 &&& 128 = 0
 ·rw [if_pos h2]
  have hga : gAll b = ((gShortN b).1, ⟨false, 0, 0, (gShort b).2, [], [], gByte b &&& 32 != 0, gByte b &&& 4 != 0, (gShortN b).2, gNl b⟩, b.length - (gShortN b).1.1) := by
   unfold gAll; rw [if_neg (by rw [hby, h2]; decide)]
  by_cases h3 : nth b 0 &&& 24 ≠ 0 ∧ false = false
  ·rw [if_pos h3]
   have e : (gShort b).1 = (1, 5) := by unfold gShort; rw [hby, hfi, show (nth b 0 &&& 24 != 0) = true by simpa using h3.1, rfail_yes, rtake_bad (by simp)]
   have e2 : (gShortN b).1 = (1, 5) := by unfold gShortN; rw [e, rnum_bad (by simp)]
   exact get_bad (by rw [hga, e2]) (by decide)
  rw [if_neg h3]
  have h3' : nth b 0 &&& 24 = 0 := by simpa using h3
  by_cases h4 : b.length < 9
  ·rw [if_pos h4]
   have e : (gShort b).1 = (1, 3) := by unfold gShort; rw [hby, hfi, h3', show ((0 : UInt8) != 0) = false from rfl, rfail_ok, rtake_short (by omega)]
   have e2 : (gShortN b).1 = (1, 3) := by unfold gShortN; rw [e, rnum_bad (by simp)]
   exact get_bad (by rw [hga, e2]) (by decide)
  rw [if_neg h4]
  have e : gShort b = ((9, 0), (b.drop 1).take 8) := by unfold gShort; rw [hby, hfi, h3', show ((0 : UInt8) != 0) = false from rfl, rfail_ok, rtake_ok (by omega)]
  have hnl : gNl b = n8 (nth b 0 &&& 3) + 1 := by unfold gNl; rw [hby]
  simp only [Bool.false_eq_true, false_and, if_false, Int.toNat_natCast]
  rw [← hnl]
  by_cases h5 : b.length < 9 + gNl b
  ·rw [if_pos h5]
   have e2 : (gShortN b).1 = (9, 3) := by unfold gShortN; rw [e, rnum_short (by omega)]
   exact get_bad (by rw [hga, e2]) (by decide)
  rw [if_neg h5, if_neg (by omega)]
  have e2 : gShortN b = ((9 + gNl b, 0), num ((b.drop 9).take (gNl b))) := by unfold gShortN; rw [e, rnum_ok (by omega)]
  unfold get
  rw [hga, e2, e, hby]
  simp only [ne_eq, not_true_eq_false, if_false]
  rw [show b.length - (9 + gNl b) = b.length - 9 - gNl b by omega]
 rw [if_neg h2]
 have hga : gAll b = ((lEnd b (gKind b) (gNl b) (gLong b)).1, ⟨true, gKind b, (aVer b (gKind b) (gLong b)).2, (aDst b (gKind b) (gLong b)).2, (aSrc b (gKind b) (gLong b)).2, (aTok b (gKind b) (gLong b)).2, false, false, (lNum b (gKind b) (gNl b) (gLong b)).2, gNl b⟩, (lEnd b (gKind b) (gNl b) (gLong b)).2) := by
  unfold gAll; rw [if_pos (by rw [hby]; simpa using h2)]
 have hgk : gKind b = (n8 (nth b 0) / 16 % 4 : Nat) := by unfold gKind; rw [hby]
 have hnl : gNl b = n8 (nth b 0 &&& 3) + 1 := by unfold gNl; rw [hby]
 have hnl4 : gNl b ≤ 256 := by have := n8_lt (nth b 0 &&& 3); omega
 have hko := kind_odd (n8 (nth b 0))
 have hk4 : n8 (nth b 0) / 16 % 4 < 4 := Nat.mod_lt _ (by decide)
 rw [← hgk] at hko
 have hgl : gLong b = rfail (nth b 0 &&& 12 != 0) 5 (1, 0) := by unfold gLong; rw [hby, hfi]
 rw [← hnl, ← hgk]
 generalize hKN : n8 (nth b 0) / 16 % 4 = kn at hko hgk hk4 ⊢
 by_cases h3 : kn % 2 = 1 ∨ (nth b 0 &&& 12 ≠ 0 ∧ false = false)
 ·rw [if_pos h3]
  have e : (lEnd b (gKind b) (gNl b) (gLong b)).1 = (1, 5) := by
   by_cases h12 : nth b 0 &&& 12 = 0
   ·have : gLong b = (1, 0) := by rw [hgl, h12]; rfl
    have e3 : aKind (gKind b) (gLong b) = (1, 5) := by
     unfold aKind; rw [this, hko, decide_eq_true (by simpa [h12] using h3)]; rfl
    rw [end_kind (by rw [e3]; decide), e3]
   ·have : gLong b = (1, 5) := by rw [hgl, show (nth b 0 &&& 12 != 0) = true by simpa using h12]; rfl
    rw [end_first (by rw [this]; decide), this]
  exact get_bad (by rw [hga, e]) (by decide)
 rw [if_neg h3]
 have h12 : nth b 0 &&& 12 = 0 := by
  by_cases h : nth b 0 &&& 12 = 0
  ·exact h
  ·exact absurd (Or.inr ⟨h, rfl⟩) h3
 have hgl0 : gLong b = (1, 0) := by rw [hgl, h12]; rfl
 have hak : aKind (gKind b) (1, 0) = (1, 0) := by
  unfold aKind; rw [hko, decide_eq_false (fun h => h3 (Or.inl h))]; rfl
 rw [hgl0] at hga
 by_cases h4 : b.length < 5
 ·rw [if_pos h4]
  have e : (aVer b (gKind b) (1, 0)).1 = (1, 3) := by unfold aVer; rw [hak, rnum_short (by omega)]
  exact get_bad (by rw [hga, end_ver (by rw [e]; decide), e]) (by decide)
 rw [if_neg h4]
 have hve : aVer b (gKind b) (1, 0) = ((5, 0), num ((b.drop 1).take 4)) := by unfold aVer; rw [hak, rnum_ok (by omega)]
 have hp1 := rid_part b 5 true
 have hd1 : aDst b (gKind b) (1, 0) = rid b 8 8 (5, 0) := by unfold aDst; rw [hve]
 simp only [if_true] at hp1
 rw [← hd1] at hp1
 cases hl1 : lPart b 5 true with
 | error e =>
  rw [hl1] at hp1
  exact get_bad (by rw [hga, end_dst (by rw [hp1.2]; exact hp1.1), hp1.2]) hp1.1
 | ok da =>
 obtain ⟨d, at1⟩ := da
 rw [hl1] at hp1
 simp only [] at hp1
 simp only []
 have hp2 := rid_part b at1 false
 have hd2 : aSrc b (gKind b) (1, 0) = rid b 0 20 (at1, 0) := by unfold aSrc; rw [hp1]
 simp only [Bool.false_eq_true, if_false] at hp2
 rw [← hd2] at hp2
 cases hl2 : lPart b at1 false with
 | error e =>
  rw [hl2] at hp2
  exact get_bad (by rw [hga, end_src (by rw [hp2.2]; exact hp2.1), hp2.2]) hp2.1
 | ok sa =>
 obtain ⟨sr, at2⟩ := sa
 rw [hl2] at hp2
 simp only [] at hp2
 simp only []
 have hle2 := lPart_le hl2
 have hp3 : match lTok b kn at2 with
   | .error e => e ≠ 0 ∧ (aTok b (gKind b) (1, 0)).1.2 = e
   | .ok (t, at3) => aTok b (gKind b) (1, 0) = ((at3, 0), t) := by
  unfold lTok
  by_cases hk : kn ≠ 0
  ·rw [if_pos hk]
   have : gKind b ≠ 0 := by rw [hgk]; omega
   show aTok b (gKind b) (1, 0) = ((at2, 0), [])
   unfold aTok; rw [if_neg this, hp2]
  rw [if_neg hk]
  have hk0 : gKind b = 0 := by rw [hgk]; omega
  by_cases hv : (vget (b.drop at2)).2.2 ≠ 0
  ·rw [if_pos hv]
   have e : (aTokN b (gKind b) (1, 0)).1.2 = (vget (b.drop at2)).2.2 := by unfold aTokN; rw [hp2, rvar_fail hv]
   exact ⟨hv, by rw [aTok_bad hk0 (by rw [e]; exact hv), e]⟩
  rw [if_neg hv]
  have e : aTokN b (gKind b) (1, 0) = ((at2 + (vget (b.drop at2)).2.1, 0), (vget (b.drop at2)).1) := by unfold aTokN; rw [hp2, rvar_ok (by simpa using hv)]
  have hmany := vget_many (b.drop at2)
  rw [List.length_drop] at hmany
  by_cases hn : 100 < (vget (b.drop at2)).1
  ·rw [if_pos hn]
   refine ⟨by decide, ?_⟩
   unfold aTok; rw [if_pos hk0, e, decide_eq_true hn, rfail_yes, rtake_bad (by simp)]
  rw [if_neg hn]
  have et : aTok b (gKind b) (1, 0) = rtake b (vget (b.drop at2)).1 (at2 + (vget (b.drop at2)).2.1, 0) := by
   unfold aTok; rw [if_pos hk0, e, decide_eq_false hn, rfail_ok, Nat.min_eq_left (by omega)]
  by_cases ht : b.length < at2 + (vget (b.drop at2)).2.1 + (vget (b.drop at2)).1
  ·rw [if_pos ht]
   exact ⟨by decide, by rw [et, rtake_short (by omega)]⟩
  rw [if_neg ht]
  show aTok b (gKind b) (1, 0) = _
  rw [et]
  have hle : (vget (b.drop at2)).1 ≤ b.length - (at2 + (vget (b.drop at2)).2.1) := by omega
  rw [rtake_ok hle]
 cases hl3 : lTok b kn at2 with
 | error e =>
  rw [hl3] at hp3
  exact get_bad (by rw [hga, end_tok (by rw [hp3.2]; exact hp3.1), hp3.2]) hp3.1
 | ok ta =>
 obtain ⟨t, at3⟩ := ta
 rw [hl3] at hp3
 simp only [] at hp3
 simp only []
 unfold lTail
 by_cases hv : (vget (b.drop at3)).2.2 ≠ 0
 ·rw [if_pos hv]
  have e : (aRest b (gKind b) (1, 0)).1.2 = (vget (b.drop at3)).2.2 := by unfold aRest; rw [hp3, rvar_fail hv]
  exact get_bad (by rw [hga, end_rest (by rw [e]; exact hv), e]) hv
 rw [if_neg hv]
 have e : aRest b (gKind b) (1, 0) = ((at3 + (vget (b.drop at3)).2.1, 0), (vget (b.drop at3)).1) := by unfold aRest; rw [hp3, rvar_ok (by simpa using hv)]
 have hmany := vget_many (b.drop at3)
 rw [List.length_drop] at hmany
 generalize (vget (b.drop at3)).1 = n at *
 generalize (vget (b.drop at3)).2.1 = m at *
 simp only [true_and, Int.toNat_natCast]
 by_cases hn : n < gNl b
 ·rw [if_pos (by omega)]
  have e2 : (lNum b (gKind b) (gNl b) (1, 0)).1 = (at3 + m, 5) := by unfold lNum; rw [e, decide_eq_true hn, rfail_yes, rnum_bad (by simp)]
  exact get_bad (by rw [hga, lEnd_bad (by rw [e2]; simp), e2]) (by decide)
 rw [if_neg (by omega)]
 by_cases hs : b.length < at3 + m + gNl b
 ·rw [if_pos hs]
  have e2 : (lNum b (gKind b) (gNl b) (1, 0)).1 = (at3 + m, 3) := by unfold lNum; rw [e, decide_eq_false hn, rfail_ok, rnum_short (by omega)]
  exact get_bad (by rw [hga, lEnd_bad (by rw [e2]; simp), e2]) (by decide)
 rw [if_neg hs]
 have e2 : lNum b (gKind b) (gNl b) (1, 0) = ((at3 + m + gNl b, 0), num ((b.drop (at3 + m)).take (gNl b))) := by unfold lNum; rw [e, decide_eq_false hn, rfail_ok, rnum_ok (by omega)]
 by_cases hr : b.length - (at3 + m + gNl b) < n - gNl b
 ·rw [if_pos (by omega)]
  have e3 : (lEnd b (gKind b) (gNl b) (1, 0)).1 = (at3 + m + gNl b, 3) := by unfold lEnd; rw [e2, if_neg (by simp), e, decide_eq_true hr]; rfl
  exact get_bad (by rw [hga, e3]) (by decide)
 rw [if_neg (by omega)]
 have e3 : lEnd b (gKind b) (gNl b) (1, 0) = ((at3 + m + gNl b, 0), min (n - gNl b) b.length) := by unfold lEnd; rw [e2, if_neg (by simp), e, decide_eq_false hr]; rfl
 unfold get
 rw [hga, e3, e2, hp3, hp2, hp1, hve]
 simp only [ne_eq, not_true_eq_false, if_false]
 rw [show min n 1073741824 - gNl b = min (n - gNl b) b.length by omega]
end Hdr

end
section
namespace Hdr
open Go.Rw
def aheadS (b : List UInt8) : (Nat × Int) × Nat :=
 if (gByte b &&& 128 == 0) = true then ((rtake b 8 (gFirst b)).1, b.length)
 else (rfail (decide (b.length - (aRest b (gKind b) (gFirst b)).1.1 < (aRest b (gKind b) (gFirst b)).2)) 3 (aRest b (gKind b) (gFirst b)).1,
  (aRest b (gKind b) (gFirst b)).1.1 + min (aRest b (gKind b) (gFirst b)).2 b.length)
def aheadP (b : List UInt8) : Nat × Nat × Int := if (aheadS b).1.2 ≠ 0 then (0, 0, (aheadS b).1.2) else ((aheadS b).1.1, (aheadS b).2, 0)
theorem aheadS_short {b : List UInt8} (h : (gByte b &&& 128 == 0) = true) : aheadS b = ((rtake b 8 (gFirst b)).1, b.length) := by unfold aheadS; rw [if_pos h]
theorem aheadS_long {b : List UInt8} (h : (gByte b &&& 128 == 0) = false) : aheadS b = (rfail (decide (b.length - (aRest b (gKind b) (gFirst b)).1.1 < (aRest b (gKind b) (gFirst b)).2)) 3 (aRest b (gKind b) (gFirst b)).1,
  (aRest b (gKind b) (gFirst b)).1.1 + min (aRest b (gKind b) (gFirst b)).2 b.length) := by unfold aheadS; rw [if_neg (by rw [h]; decide)]
theorem ahead_of {b : List UInt8} {s : Nat × Int} {e : Nat} (h : aheadS b = (s, e)) : aheadP b = if s.2 ≠ 0 then (0, 0, s.2) else (s.1, e, 0) := by unfold aheadP; rw [h]
end Hdr
namespace Go.Proofs.Ytjlpppnpdgenfaa
open Go.RowKit Go.Rw Hdr
attribute [local go_sem ↓] bdR bdH hvA_0 hvA_1 hvA_2 hvA_3 hvA_4 hvA_5 hvA_6 hvA_7 hvA_8 hvA_9
attribute [local go_sem] buildR buildH buildH0
attribute [local go_sem ↓] ldH stH alH shift_shl8 shift_shr8 shift_shl64 shift_shr64
attribute [local go_sem] rldH rstH ralH setRow_alloc_at setRow_alloc_past setRow_drew
set_option maxRecDepth 100000 in
set_option maxHeartbeats 4000000 in
theorem ahead_w (b : List UInt8) (hb : b.length ≤ 1000000) (vb : Value) (w : World) (hsb : Sl w vb b) :
  Calls Try.prog 37 #[vb] w fun e w' => e = .returned (.tuple #[.int .i64 ((aheadP b).1 : Nat), .int .i64 ((aheadP b).2.1 : Nat), .int .i64 (aheadP b).2.2]) ∧ Below w.heap.size w w' := by
 have hs0 := hsb
 obtain ⟨ao, cap, rfl, hc, hnn, hp⟩ := hsb
 clear hp hnn
 obtain ⟨R, hR⟩ : ∃ R, aheadP b = R := ⟨_, rfl⟩
 rw [hR]
 have hv256 : (rnum b 1 (0, 0)).2 < 256 := rnum_lt b 1 (0, 0)
 have hle1 : (rnum b 1 (0, 0)).1.1 ≤ b.length := rnum_le b 1 (0, 0) (Nat.zero_le _)
 have hP1 : rnum b 1 (0, 0) = ((rnum b 1 (0, 0)).1, n8 (gByte b)) := by unfold gByte; rw [n8_ofNat _ hv256]
 have hP2 : rfail (gByte b &&& 64 == 0) 5 (rnum b 1 (0, 0)).1 = gFirst b := rfl
 have hle2 : (gFirst b).1 ≤ b.length := by unfold gFirst; rw [rfail_at]; exact hle1
 have hf256 : ((n8 (gByte b) : Nat) : Int) % 256 = (n8 (gByte b) : Nat) := by have := n8_lt (gByte b); omega
 have hK : gKind b = (n8 (gByte b) / 16 % 4 : Nat) := rfl
 cases hl : (gByte b &&& 128 == 0) with
 | true =>
  rw [ahead_of (aheadS_short hl)] at hR
  obtain ⟨q, hq⟩ : ∃ q, (rtake b 8 (gFirst b)).1 = q := ⟨_, rfl⟩
  rw [hq] at hR
  have htk := fun (W : World) (hW : Below w.heap.size w W) (hr : row? W w.heap.size = some (rd (.slice ao b.length cap) (gFirst b))) => take_any b w W w.heap.size (.slice ao b.length cap) (gFirst b) 8 hb (by decide) hle2 hs0 hW (Nat.le_refl _) hr
  rw [hq] at htk
  generalize gFirst b = s2 at *
  generalize (rnum b 1 (0, 0)).1 = s1 at *
  generalize gByte b = f at *
  have HTK := Lib.hid htk
  have P1 := Lib.hid hP1
  have P2 := Lib.hid hP2
  have HS0 := Lib.hid hs0
  have HRR := Lib.hid hR
  have HBL := hb
  clear htk hP1 hP2 hs0 hR hK hle1 hle2 hv256 hq
  go_enter Try.func37, Try.ntmps37
  go_wp2_with fail
  have hW1 : Below w.heap.size w (w.alloc (.cells #[.slice ao b.length cap, .int .i64 0, .int .i64 0] 92)) := (Below.refl _ _).alloc (Nat.le_refl _) _
  have hR1 : row? (w.alloc (.cells #[.slice ao b.length cap, .int .i64 0, .int .i64 0] 92)) w.heap.size = some (rd (.slice ao b.length cap) (0, 0)) := row?_alloc_at _ _ _ _ rfl
  generalize (w.alloc (.cells #[.slice ao b.length cap, .int .i64 0, .int .i64 0] 92)) = W1 at hW1 hR1 ⊢
  refine (rnumber_any b w W1 w.heap.size (.slice ao b.length cap) (0, 0) 1 HBL (by decide) (Nat.zero_le _) HS0.out hW1 (Nat.le_refl _) hR1).mono ?_
  rintro e W2 ⟨rfl, m2, r2⟩
  rw [P1.out] at r2
  rw [P1.out]
  have hW2 : Below w.heap.size w W2 := hW1.trans (m2.below (Nat.le_refl _) hW1.size)
  have R2 := Lib.hid r2
  clear m2 hW1 hR1 r2
  go_wp2_with fail
  refine (fail_any W2 w.heap.size (.slice ao b.length cap) s1 _ 5 R2.out).mono ?_
  rintro e W3 ⟨rfl, m3, r3⟩
  rw [P2.out] at r3
  have hW3 : Below w.heap.size w W3 := hW2.trans (m3.below (Nat.le_refl _) hW2.size)
  have R3 := Lib.hid r3
  clear m3 r3 R2 hW2
  go_wp2_with fail
  refine (HTK.out W3 hW3 R3.out).mono ?_
  rintro e W4 ⟨vt, rfl, -, m4, r4⟩
  have hW4 : Below w.heap.size w W4 := hW3.trans (m4.below (Nat.le_refl _) hW3.size)
  have c1 : W4.cell? ⟨w.heap.size, 1, none⟩ = some (.int .i64 (q.1 : Nat)) := row?_cell r4 1
  have c2 : W4.cell? ⟨w.heap.size, 2, none⟩ = some (.int .i64 q.2) := row?_cell r4 2
  clear m4 r4 R3 hW3 HTK
  by_cases he : q.2 = 0
  ·have hR := HRR.out
   rw [if_neg (by simpa using he)] at hR
   have HR2 := Lib.hid hR
   rw [he] at c2
   clear hR HRR he
   go_wp2_with fail
   go_ret3
   rw [← HR2.out]
   exact ⟨rfl, hW4⟩
  ·have hR := HRR.out
   rw [if_pos he] at hR
   have HR2 := Lib.hid hR
   have he' : (q.2 != 0) = true := by simpa using he
   clear hR HRR
   go_wp2_with fail
   go_region
   all_goals (go_wp2_with fail)
   go_ret3
   rw [← HR2.out]
   exact ⟨rfl, hW4.drew⟩
 | false =>
  rw [ahead_of (aheadS_long hl)] at hR
  have hah := fun (W : World) (hW : Below w.heap.size w W) (Bh : Nat) (hB1 : w.heap.size ≤ Bh) (hB2 : Bh ≠ w.heap.size) (hr : row? W w.heap.size = some (rd (.slice ao b.length cap) (gFirst b))) (hh : row? W Bh = some (hvA false 0 0 (.slice none 0 0) (.slice none 0 0) (.slice none 0 0) false false 0 0)) => ahead_any b w W w.heap.size Bh (.slice ao b.length cap) (gFirst b) (gByte b) false 0 0 false false 0 0 hb hle2 hs0 hW (Nat.le_refl _) hB1 hB2 hr hh
  rw [← hK] at hah
  have hla : (aRest b (gKind b) (gFirst b)).1.1 ≤ b.length := aRest_le _ _ _ hle2
  have hlt : (aRest b (gKind b) (gFirst b)).2 < 18446744073709551616 := aRest_lt _ _ _
  obtain ⟨q, hq⟩ : ∃ q, aRest b (gKind b) (gFirst b) = q := ⟨_, rfl⟩
  rw [hq] at hR hah hla hlt
  obtain ⟨s4, n⟩ := q
  simp only [] at hR hah hla hlt
  clear hq
  obtain ⟨s5, hs5⟩ : ∃ s5, rfail (decide (b.length - s4.1 < n)) 3 s4 = s5 := ⟨_, rfl⟩
  rw [hs5] at hR
  have h51 : s5.1 = s4.1 := by rw [← hs5, rfail_at]
  generalize gFirst b = s2 at *
  generalize (rnum b 1 (0, 0)).1 = s1 at *
  generalize gKind b = kk at *
  generalize gByte b = f at *
  have HAH := Lib.hid hah
  have P1 := Lib.hid hP1
  have P2 := Lib.hid hP2
  have HS0 := Lib.hid hs0
  have HS5 := Lib.hid hs5
  have H51 := Lib.hid h51
  have HRR := Lib.hid hR
  have HLT := Lib.hid hlt
  have HBL := hb
  clear hah hP1 hP2 hs0 hR hK hle1 hle2 hv256 hs5 h51 hlt
  go_enter Try.func37, Try.ntmps37
  go_wp2_with fail
  have hW1 : Below w.heap.size w (w.alloc (.cells #[.slice ao b.length cap, .int .i64 0, .int .i64 0] 92)) := (Below.refl _ _).alloc (Nat.le_refl _) _
  have hR1 : row? (w.alloc (.cells #[.slice ao b.length cap, .int .i64 0, .int .i64 0] 92)) w.heap.size = some (rd (.slice ao b.length cap) (0, 0)) := row?_alloc_at _ _ _ _ rfl
  generalize (w.alloc (.cells #[.slice ao b.length cap, .int .i64 0, .int .i64 0] 92)) = W1 at hW1 hR1 ⊢
  refine (rnumber_any b w W1 w.heap.size (.slice ao b.length cap) (0, 0) 1 HBL (by decide) (Nat.zero_le _) HS0.out hW1 (Nat.le_refl _) hR1).mono ?_
  rintro e W2 ⟨rfl, m2, r2⟩
  rw [P1.out] at r2
  rw [P1.out]
  have hW2 : Below w.heap.size w W2 := hW1.trans (m2.below (Nat.le_refl _) hW1.size)
  have R2 := Lib.hid r2
  clear m2 hW1 hR1 r2
  go_wp2_with fail
  refine (fail_any W2 w.heap.size (.slice ao b.length cap) s1 _ 5 R2.out).mono ?_
  rintro e W3 ⟨rfl, m3, r3⟩
  rw [P2.out] at r3
  have hW3 : Below w.heap.size w W3 := hW2.trans (m3.below (Nat.le_refl _) hW2.size)
  have z3 := row?_lt r3
  have R3 := Lib.hid r3
  clear m3 r3 R2 hW2
  go_wp2_with fail
  have hh : row? (W3.alloc (.cells (hvA false 0 0 (.slice none 0 0) (.slice none 0 0) (.slice none 0 0) false false 0 0) 30)) W3.heap.size = some (hvA false 0 0 (.slice none 0 0) (.slice none 0 0) (.slice none 0 0) false false 0 0) := row?_alloc_at _ _ _ _ rfl
  have hr : row? (W3.alloc (.cells (hvA false 0 0 (.slice none 0 0) (.slice none 0 0) (.slice none 0 0) false false 0 0) 30)) w.heap.size = some (rd (.slice ao b.length cap) s2) := by rw [row?_alloc_past _ _ _ z3]; exact R3.out
  have hW4 : Below w.heap.size w (W3.alloc (.cells (hvA false 0 0 (.slice none 0 0) (.slice none 0 0) (.slice none 0 0) false false 0 0) 30)) := hW3.alloc (by omega) _
  refine (HAH.out _ hW4 W3.heap.size (by omega) (by omega) hr hh).mono ?_
  rintro e W5 ⟨vd, vs, vt, rfl, r5, -, -, -, -, -, m5⟩
  have hW5 : Below w.heap.size w W5 := hW4.trans (m5.below (Nat.le_refl _) (by omega) hW4.size)
  have c1 : W5.cell? ⟨w.heap.size, 1, none⟩ = some (.int .i64 (s4.1 : Nat)) := row?_cell r5 1
  have R5 := Lib.hid r5
  clear m5 r5 hh hr hW4 hW3 HAH R3 z3
  have hw1 : wrap64 ((b.length : Int) - (s4.1 : Nat)) = ((b.length - s4.1 : Nat) : Int) := by unfold wrap64; omega
  have hw2 : IntKind.u64.wrap ((b.length - s4.1 : Nat) : Int) = ((b.length - s4.1 : Nat) : Int) := by simp only [IntKind.wrap_u64]; omega
  go_wp2_with fail
  refine (fail_any W5 w.heap.size (.slice ao b.length cap) s4 _ 3 R5.out).mono ?_
  rintro e W6 ⟨rfl, m6, r6⟩
  rw [show decide ((b.length : Int) - (s4.1 : Nat) < (n : Nat)) = decide (b.length - s4.1 < n) from decide_eq_decide.2 (by omega), HS5.out] at r6
  have hW6 : Below w.heap.size w W6 := hW5.trans (m6.below (Nat.le_refl _) hW5.size)
  have c1 : W6.cell? ⟨w.heap.size, 1, none⟩ = some (.int .i64 (s4.1 : Nat)) := by rw [← H51.out]; exact row?_cell r6 1
  have c2 : W6.cell? ⟨w.heap.size, 2, none⟩ = some (.int .i64 s5.2) := row?_cell r6 2
  have HLA := Lib.hid hla
  clear m6 r6 R5 hw1 hw2 hW5
  have hw3 : IntKind.u64.wrap ((b.length : Nat) : Int) = (b.length : Nat) := by simp only [IntKind.wrap_u64]; omega
  have hw4 : wrap64 ((b.length : Nat) : Int) = (b.length : Nat) := by unfold wrap64; omega
  by_cases hm : n ≤ b.length
  ·have hR := HRR.out
   rw [Nat.min_eq_left hm] at hR
   clear HRR
   have HRR := Lib.hid hR
   have hw5 : wrap64 ((n : Nat) : Int) = (n : Nat) := wrap_small n (Nat.le_trans hm HBL)
   have HW5 := Lib.hid hw5
   clear hR
   by_cases he : s5.2 = 0
   ·have hR := HRR.out
    rw [if_neg (by simpa using he)] at hR
    have HR2 := Lib.hid hR
    rw [he] at c2
    clear hR HRR he
    go_wp2_with fail
    go_ret3
    rw [← HR2.out, H51.out]
    exact ⟨rfl, hW6⟩
   ·have hR := HRR.out
    rw [if_pos he] at hR
    have HR2 := Lib.hid hR
    have he' : (s5.2 != 0) = true := by simpa using he
    clear hR HRR
    go_wp2_with fail
    go_region
    all_goals (go_wp2_with fail)
    go_ret3
    rw [← HR2.out]
    exact ⟨rfl, hW6.drew⟩
  ·have hR := HRR.out
   rw [Nat.min_eq_right (Nat.le_of_not_le hm)] at hR
   clear HRR
   have HRR := Lib.hid hR
   clear hR
   by_cases he : s5.2 = 0
   ·have hR := HRR.out
    rw [if_neg (by simpa using he)] at hR
    have HR2 := Lib.hid hR
    rw [he] at c2
    clear hR HRR he
    go_wp2_with fail
    go_ret3
    rw [← HR2.out, H51.out]
    exact ⟨rfl, hW6⟩
   ·have hR := HRR.out
    rw [if_pos he] at hR
    have HR2 := Lib.hid hR
    have he' : (s5.2 != 0) = true := by simpa using he
    clear hR HRR
    go_wp2_with fail
    go_region
    all_goals (go_wp2_with fail)
    go_ret3
    rw [← HR2.out]
    exact ⟨rfl, hW6.drew⟩
end Go.Proofs.Ytjlpppnpdgenfaa

end
