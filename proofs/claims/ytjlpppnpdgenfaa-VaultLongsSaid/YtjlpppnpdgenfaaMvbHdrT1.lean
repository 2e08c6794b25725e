/- What is laid is read as it was, in plain words: a header's bytes, with any behind them, tell that header. No condition. -/
import Derived.Test.YtjlpppnpdgenfaaMvb6
import Derived.Test.YtjlpppnpdgenfaaMvbHdrP
import Derived.Test.YtjlpppnpdgenfaaMvb5
import Derived.Test.YtjlpppnpdgenfaaMvb15
namespace Hdr
open Go Go.Rw
theorem n8_mod (x : Nat) : n8 (UInt8.ofNat x) = x % 256 := by simp [n8]
theorem num_be {n many : Nat} (h : many ≤ 4) : num (be n many) = n % 256 ^ many := by
 have : many = 0 ∨ many = 1 ∨ many = 2 ∨ many = 3 ∨ many = 4 := by omega
 rcases this with rfl | rfl | rfl | rfl | rfl
 all_goals simp [be, num, List.range, List.range.loop, n8_mod]
 all_goals omega
theorem drop_app {b x y : List UInt8} {at_ n : Nat} (h : b.drop at_ = x ++ y) (hx : x.length = n) : b.drop (at_ + n) = y := by
 rw [← List.drop_drop, h, List.drop_left' hx]
theorem app_le {b x y : List UInt8} {at_ n : Nat} (h : b.drop at_ = x ++ y) (hx : x.length = n) : n ≤ b.length - at_ := by
 have := congrArg List.length h
 rw [List.length_drop, List.length_append, hx] at this
 omega
theorem rtake_app {b x y : List UInt8} {at_ n : Nat} (h : b.drop at_ = x ++ y) (hx : x.length = n) : rtake b n (at_, 0) = ((at_ + n, 0), x) := by
 rw [rtake_ok (app_le h hx), h, List.take_left' hx]
theorem rnum_app {b x y : List UInt8} {at_ n : Nat} (h : b.drop at_ = x ++ y) (hx : x.length = n) : rnum b n (at_, 0) = ((at_ + n, 0), num x) := by
 rw [rnum_ok (app_le h hx), h, List.take_left' hx]
theorem rid_app {b d y : List UInt8} {at_ least most : Nat} (h : b.drop at_ = [UInt8.ofNat d.length] ++ (d ++ y)) (h1 : least ≤ d.length) (h2 : d.length ≤ most) (h3 : d.length < 256) :
  rid b least most (at_, 0) = ((at_ + 1 + d.length, 0), d) := by
 have e : num [UInt8.ofNat d.length] = d.length := by simp [num, n8_mod]; try omega
 unfold rid
 rw [rnum_app (n := 1) h rfl, e]
 have : (decide (d.length < least) || decide (most < d.length)) = false := by simp; omega
 rw [this, rfail_ok, rtake_app (drop_app (n := 1) h rfl) rfl]
theorem rvar_app {b x y : List UInt8} {at_ n k : Nat} (h : b.drop at_ = x ++ y) (hv : vget (x ++ y) = (n, k, 0)) : rvar b (at_, 0) = ((at_ + k, 0), n) := by
 rw [rvar_ok (by rw [h, hv]), h, hv]
theorem vin_1 (n : Nat) : vin n 1 = [UInt8.ofNat n] := by
 have : vmk 1 = 0 := by decide
 simp [vin, this, List.range, List.range.loop]
theorem vin_2 (n : Nat) : vin n 2 = [UInt8.ofNat (n / 256) ||| 64, UInt8.ofNat n] := by
 have : vmk 2 = 64 := by decide
 simp [vin, this, List.range, List.range.loop]
theorem or64 : ∀ k : Fin 64, n8 (UInt8.ofNat k.1 ||| 64) = k.1 + 64 := by decide
theorem vget_vin1 {n : Nat} (h : n < 64) (y : List UInt8) : vget (vin n 1 ++ y) = (n, 1, 0) := by
 have e : n8 (UInt8.ofNat n) = n := by rw [n8_mod]; omega
 have m : vmany (UInt8.ofNat n) = 1 := by unfold vmany; rw [e, Nat.div_eq_of_lt h]
 rw [vin_1]
 unfold vget vnum
 rw [show nth ([UInt8.ofNat n] ++ y) 0 = UInt8.ofNat n from rfl, m, if_neg (by simp), e]
 have : n % 64 = n := by omega
 simp [this]
theorem vget_vin2 {n : Nat} (h : n < 16384) (y : List UInt8) : vget (vin n 2 ++ y) = (n, 2, 0) := by
 have e : n8 (UInt8.ofNat (n / 256) ||| 64) = n / 256 + 64 := or64 ⟨n / 256, by omega⟩
 have m : vmany (UInt8.ofNat (n / 256) ||| 64) = 2 := by unfold vmany; rw [e, show (n / 256 + 64) / 64 = 1 by omega]
 rw [vin_2]
 unfold vget vnum
 rw [show nth ([UInt8.ofNat (n / 256) ||| 64, UInt8.ofNat n] ++ y) 0 = UInt8.ofNat (n / 256) ||| 64 from rfl, m, if_neg (by simp), e]
 have e2 : n8 (UInt8.ofNat n) = n % 256 := n8_mod n
 simp [e2]
 omega
theorem vget_vlen {n : Nat} (h : n < 16384) (y : List UInt8) : vget (vin n (vlen n) ++ y) = (n, vlen n, 0) := by
 unfold vlen
 split
 ·exact vget_vin1 (by assumption) y
 ·exact vget_vin2 h y
theorem ofNat_n8 (c : UInt8) : UInt8.ofNat (n8 c) = c := UInt8.ofNat_toNat
theorem gByte_cons (F : UInt8) (t : List UInt8) : gByte ([F] ++ t) = F := by
 unfold gByte
 rw [rnum_app (b := [F] ++ t) (x := [F]) (y := t) (at_ := 0) (n := 1) rfl rfl]
 show UInt8.ofNat (0 * 256 + n8 F) = F
 rw [Nat.zero_mul, Nat.zero_add, ofNat_n8]
theorem gFirst_cons {F : UInt8} (t : List UInt8) (h : (F &&& 64 == 0) = false) : gFirst ([F] ++ t) = (1, 0) := by
 unfold gFirst
 rw [gByte_cons, h, rfail_ok, rnum_app (b := [F] ++ t) (x := [F]) (y := t) (at_ := 0) (n := 1) rfl rfl]
theorem longF_facts {kind : Int} {nl : Nat} (hk : kind = 0 ∨ kind = 2) (h1 : 1 ≤ nl) (h4 : nl ≤ 4) :
  (longF kind nl &&& 64 == 0) = false ∧ (longF kind nl &&& 128 != 0) = true ∧ (longF kind nl &&& 12 != 0) = false ∧ ((n8 (longF kind nl) / 16 % 4 : Nat) : Int) = kind ∧ n8 (longF kind nl &&& 3) + 1 = nl ∧ n8 (longF kind nl) = 191 + nl + (if kind = 2 then 32 else 0) := by
 have : nl = 1 ∨ nl = 2 ∨ nl = 3 ∨ nl = 4 := by omega
 rcases hk with rfl | rfl <;> rcases this with rfl | rfl | rfl | rfl <;> decide
theorem first_facts {spin phase : Bool} {nl : Nat} (h1 : 1 ≤ nl) (h4 : nl ≤ 4) :
  (first spin phase nl &&& 64 == 0) = false ∧ (first spin phase nl &&& 128 != 0) = false ∧ (first spin phase nl &&& 24 != 0) = false ∧ (first spin phase nl &&& 32 != 0) = spin ∧ (first spin phase nl &&& 4 != 0) = phase ∧ n8 (first spin phase nl &&& 3) + 1 = nl := by
 have : nl = 1 ∨ nl = 2 ∨ nl = 3 ∨ nl = 4 := by omega
 cases spin <;> cases phase <;> rcases this with rfl | rfl | rfl | rfl <;> decide
theorem get_shortB (spin phase : Bool) (dst z : List UInt8) (n nl : Nat) (hd : dst.length = 8) (h1 : 1 ≤ nl) (h4 : nl ≤ 4) :
  get ([first spin phase nl] ++ dst ++ be n nl ++ z) = (⟨false, 0, 0, dst, [], [], spin, phase, n % 256 ^ nl, nl⟩, 9 + nl, z.length, 0) := by
 obtain ⟨f1, f2, f3, f4, f5, f6⟩ := first_facts (spin := spin) (phase := phase) h1 h4
 generalize first spin phase nl = F at *
 have e : [F] ++ dst ++ be n nl ++ z = [F] ++ (dst ++ (be n nl ++ z)) := by simp
 have hlen : ([F] ++ dst ++ be n nl ++ z).length = 9 + nl + z.length := by simp [be_length, hd]; omega
 rw [e] at hlen ⊢
 obtain ⟨b, hb⟩ : ∃ b, [F] ++ (dst ++ (be n nl ++ z)) = b := ⟨_, rfl⟩
 have g1 : gByte b = F := by rw [← hb]; exact gByte_cons F _
 have g2 : gFirst b = (1, 0) := by rw [← hb]; exact gFirst_cons _ f1
 have d1 : b.drop 1 = dst ++ (be n nl ++ z) := by rw [← hb]; rfl
 rw [hb] at hlen ⊢
 have g3 : gShort b = ((9, 0), dst) := by
  unfold gShort; rw [g1, g2, f3, rfail_ok, rtake_app d1 hd]
 have d9 : b.drop 9 = be n nl ++ z := drop_app d1 hd
 have g4 : gNl b = nl := by unfold gNl; rw [g1, f6]
 have g5 : gShortN b = ((9 + nl, 0), n % 256 ^ nl) := by
  unfold gShortN; rw [g3, g4, rnum_app d9 (be_length n nl), num_be h4]
 have ga : gAll b = ((9 + nl, 0), ⟨false, 0, 0, dst, [], [], spin, phase, n % 256 ^ nl, nl⟩, z.length) := by
  unfold gAll
  rw [g1, if_neg (by rw [f2]; decide), g3, g5, g4, f4, f5, hlen]
  simp
 unfold get
 rw [ga]
 rfl
theorem get_longB (kind : Int) (ver : Nat) (dst src tok z : List UInt8) (n nl rest : Nat) (hk : kind = 0 ∨ (kind = 2 ∧ tok = [])) (hv : ver < 4294967296) (hd : dst.length = 8) (hs : src.length ≤ 20) (ht : tok.length ≤ 100) (h1 : 1 ≤ nl) (h4 : nl ≤ 4) (hr : rest + nl ≤ 16383) (hz : rest ≤ z.length) :
  get (longB kind ver dst src tok n nl rest ++ z) = (⟨true, kind, ver, dst, src, tok, false, false, n % 256 ^ nl, nl⟩, (longB kind ver dst src tok n nl rest).length, rest, 0) := by
 obtain ⟨f1, f2, f3, f4, f5, -⟩ := longF_facts (kind := kind) (nl := nl) (by rcases hk with h | h; exact .inl h; exact .inr h.1) h1 h4
 have e : longB kind ver dst src tok n nl rest ++ z = [longF kind nl] ++ (be ver 4 ++ ([UInt8.ofNat dst.length] ++ (dst ++ ([UInt8.ofNat src.length] ++ (src ++ (longTok kind tok ++ (vin (rest + nl) 2 ++ (be n nl ++ z)))))))) := by
  unfold longB; simp
 have hlen : (longB kind ver dst src tok n nl rest ++ z).length = (longB kind ver dst src tok n nl rest).length + z.length := List.length_append
 have hL : (longB kind ver dst src tok n nl rest).length = 17 + src.length + (longTok kind tok).length + nl := by
  unfold longB; simp [be_length, vin_length, hd]; omega
 rw [hL] at hlen ⊢
 clear hL
 rw [e] at hlen ⊢
 generalize longF kind nl = F at *
 obtain ⟨b, hb⟩ : ∃ b, [F] ++ (be ver 4 ++ ([UInt8.ofNat dst.length] ++ (dst ++ ([UInt8.ofNat src.length] ++ (src ++ (longTok kind tok ++ (vin (rest + nl) 2 ++ (be n nl ++ z)))))))) = b := ⟨_, rfl⟩
 have g1 : gByte b = F := by rw [← hb]; exact gByte_cons F _
 have g2 : gFirst b = (1, 0) := by rw [← hb]; exact gFirst_cons _ f1
 have d1 : b.drop 1 = be ver 4 ++ ([UInt8.ofNat dst.length] ++ (dst ++ ([UInt8.ofNat src.length] ++ (src ++ (longTok kind tok ++ (vin (rest + nl) 2 ++ (be n nl ++ z))))))) := by rw [← hb]; rfl
 rw [hb] at hlen ⊢
 clear hb e
 have g3 : gLong b = (1, 0) := by unfold gLong; rw [g1, g2, f3, rfail_ok]
 have g4 : gNl b = nl := by unfold gNl; rw [g1, f5]
 have g5 : gKind b = kind := by unfold gKind; rw [g1, f4]
 have a0 : aKind kind (1, 0) = (1, 0) := by
  unfold aKind
  have : (decide (kind ≠ 0) && decide (kind ≠ 2)) = false := by rcases hk with h | h <;> simp [h]
  rw [this, rfail_ok]
 have a1 : aVer b kind (1, 0) = ((5, 0), ver) := by
  unfold aVer; rw [a0, rnum_app d1 (be_length ver 4), num_be (by decide), Nat.mod_eq_of_lt hv]
 have d5 := drop_app d1 (be_length ver 4)
 have a2 : aDst b kind (1, 0) = ((14, 0), dst) := by
  unfold aDst; rw [a1, rid_app d5 (by omega) (by omega) (by omega), hd]
 have d6 := drop_app (drop_app d5 (n := 1) rfl) hd
 have a3 : aSrc b kind (1, 0) = ((15 + src.length, 0), src) := by
  unfold aSrc; rw [a2, rid_app d6 (by omega) (by omega) (by omega)]
 have d7 := drop_app (drop_app d6 (n := 1) rfl) rfl
 have hlt : (longTok kind tok).length ≤ 108 := by
  unfold longTok; split
  ·have := vlen_le tok.length; simp [vin_length]; omega
  ·simp
 have a4 : aTok b kind (1, 0) = ((15 + src.length + (longTok kind tok).length, 0), tok) := by
  unfold aTok aTokN
  rw [a3]
  by_cases h0 : kind = 0
  ·rw [if_pos h0]
   have et : longTok kind tok = vin tok.length (vlen tok.length) ++ tok := by unfold longTok; rw [if_pos h0]
   have ej : longTok kind tok ++ (vin (rest + nl) 2 ++ (be n nl ++ z)) = vin tok.length (vlen tok.length) ++ (tok ++ (vin (rest + nl) 2 ++ (be n nl ++ z))) := by rw [et]; simp
   rw [ej] at d7
   rw [rvar_app (b := b) (at_ := 15 + src.length) d7 (vget_vlen (by omega) _)]
   simp only []
   have d7' := drop_app d7 (vin_length _ _)
   rw [show decide (100 < tok.length) = false by simp; omega, rfail_ok, Nat.min_eq_left ht, rtake_app d7' rfl, et, List.length_append, vin_length]
   simp only [Prod.mk.injEq, and_true]; omega
  ·rw [if_neg h0]
   have htn : tok = [] := by rcases hk with h | h; exact absurd h h0; exact h.2
   have et : longTok kind tok = [] := by unfold longTok; rw [if_neg h0]
   rw [et, htn]; rfl
 have d8 := drop_app d7 rfl
 have a5 : aRest b kind (1, 0) = ((17 + src.length + (longTok kind tok).length, 0), rest + nl) := by
  unfold aRest; rw [a4, rvar_app (b := b) (at_ := 15 + src.length + (longTok kind tok).length) d8 (vget_vin2 (by omega) _)]
  simp only [Prod.mk.injEq, and_true]; omega
 have d9 : b.drop (17 + src.length + (longTok kind tok).length) = be n nl ++ z := by
  have := drop_app d8 (vin_length _ _)
  rw [← this]; congr 1; omega
 have a6 : lNum b kind nl (1, 0) = ((17 + src.length + (longTok kind tok).length + nl, 0), n % 256 ^ nl) := by
  unfold lNum; rw [a5]
  rw [show decide (rest + nl < nl) = false by simp, rfail_ok, rnum_app d9 (be_length n nl), num_be h4]
 have a7 : lEnd b kind nl (1, 0) = ((17 + src.length + (longTok kind tok).length + nl, 0), rest) := by
  unfold lEnd; rw [a6, a5, if_neg (by simp)]
  simp only []
  rw [show decide (b.length - (17 + src.length + (longTok kind tok).length + nl) < rest + nl - nl) = false by simp; omega, rfail_ok, Nat.add_sub_cancel, Nat.min_eq_left (by omega)]
 unfold get
 rw [show gAll b = ((17 + src.length + (longTok kind tok).length + nl, 0), ⟨true, kind, ver, dst, src, tok, false, false, n % 256 ^ nl, nl⟩, rest) from ?_]
 ·rfl
 ·rw [gAll_long (by rw [g1]; exact f2), g3, g4, g5, a7, a1, a2, a3, a4, a6]
end Hdr
