/- What sealing answers opens to what it was, if the number is near enough. No condition. -/
import Derived.Test.YtjlpppnpdgenfaaMvb25
namespace Vlt
open Go Go.Rw Aes Hdr Gcm
theorem head_get {lg : Bool} {kind : Int} {ver : Nat} {dst src tok : List UInt8} {sp ph : Bool} {num n R : Nat} (hm : mayN lg kind ver dst.length src.length tok.length sp ph num n = true) (hver : ver < 4294967296) (hR : R ≤ 2016) (c z : List UInt8) (hc : c.length = R) (hz : lg = false → z = []) :
  get (headB lg kind ver dst src tok sp ph num n R ++ (c ++ z)) = (⟨lg, kind, ver, dst, src, tok, sp, ph, num % 256 ^ n, n⟩, (headB lg kind ver dst src tok sp ph num n R).length, R, 0) := by
 obtain ⟨f1, f2, f3, f4, f5, f6, f7, f8⟩ := may_facts hm
 cases lg
 ·obtain ⟨rfl, rfl, hs, ht⟩ := f7 rfl
  obtain rfl : src = [] := List.eq_nil_of_length_eq_zero hs
  obtain rfl : tok = [] := List.eq_nil_of_length_eq_zero ht
  obtain rfl := hz rfl
  have e : headB false 0 0 dst [] [] sp ph num n R = [first sp ph n] ++ dst ++ be num n := by unfold headB; rw [if_neg (by decide)]
  rw [e, List.append_nil, get_shortB sp ph dst c num n f4 (by omega) (by omega), hc]
  simp [be_length, f4]; omega
 ·obtain ⟨hk, rfl, rfl⟩ := f8 rfl
  have e : headB true kind ver dst src tok false false num n R = longB kind ver dst src tok num n R := by unfold headB; rw [if_pos rfl]
  rw [e]
  exact get_longB kind ver dst src tok (c ++ z) num n R (by rcases hk with h | h; exact .inl h; exact .inr ⟨h.1, List.eq_nil_of_length_eq_zero h.2⟩) hver f4 f5 f6 (by omega) (by omega) (by omega) (by simp; omega)
theorem sealR_yes {key iv msk : List UInt8} {lg : Bool} {kind : Int} {ver : Nat} {dst src tok : List UInt8} {sp ph : Bool} {u : UInt64} {nl : Int} {text B : List UInt8} (h : sealR key iv msk lg kind ver dst src tok sp ph u nl text = (B, 0)) :
  ∃ n : Nat, nl = n ∧ mayN lg kind ver dst.length src.length tok.length sp ph (n64 u) n = true ∧ 4 ≤ n + text.length ∧ text.length ≤ 2000 ∧ B = packB key iv msk (headB lg kind ver dst src tok sp ph (n64 u) n (text.length + 16)) text u n := by
 cases hm : mayN lg kind ver dst.length src.length tok.length sp ph (n64 u) nl with
 | false => rw [sealR_no hm] at h; injection h with _ h; exact absurd h (by decide)
 | true =>
  obtain ⟨f1, f2, -, -, -, -, -, -⟩ := may_facts hm
  obtain ⟨n, rfl⟩ : ∃ n : Nat, nl = (n : Int) := ⟨nl.toNat, by omega⟩
  by_cases h4 : (n : Int) + (text.length : Int) < 4
  ·rw [sealR_low h4] at h; injection h with _ h; exact absurd h (by decide)
  by_cases h2 : 2000 < text.length
  ·rw [sealR_long hm h4 h2] at h; injection h with _ h; exact absurd h (by decide)
  rw [sealR_ok hm h4 h2] at h
  injection h with h _
  exact ⟨n, rfl, hm, by omega, by omega, h.symm⟩
theorem sealR_bad {key iv msk : List UInt8} {lg : Bool} {kind : Int} {ver : Nat} {dst src tok : List UInt8} {sp ph : Bool} {u : UInt64} {nl : Int} {text B : List UInt8} {e : Int} (h : sealR key iv msk lg kind ver dst src tok sp ph u nl text = (B, e)) (he : e ≠ 0) : B = [] := by
 cases hm : mayN lg kind ver dst.length src.length tok.length sp ph (n64 u) nl with
 | false => rw [sealR_no hm] at h; injection h with h _; exact h.symm
 | true =>
  obtain ⟨f1, f2, -, -, -, -, -, -⟩ := may_facts hm
  obtain ⟨n, rfl⟩ : ∃ n : Nat, nl = (n : Int) := ⟨nl.toNat, by omega⟩
  by_cases h4 : (n : Int) + (text.length : Int) < 4
  ·rw [sealR_low h4] at h; injection h with h _; exact h.symm
  by_cases h2 : 2000 < text.length
  ·rw [sealR_long hm h4 h2] at h; injection h with h _; exact h.symm
  rw [sealR_ok hm h4 h2] at h
  injection h with _ h
  exact absurd h.symm he
theorem open_sealR {key iv msk : List UInt8} {lg : Bool} {kind : Int} {ver : Nat} {dst src tok : List UInt8} {sp ph : Bool} {u : UInt64} {n : Nat} {text B z : List UInt8} {largest : Nat} {any : Bool} (h : sealR key iv msk lg kind ver dst src tok sp ph u n text = (B, 0)) (hver : ver < 4294967296) (hz : lg = false → z = []) (hzl : z.length ≤ 1000)
  (hf : full (n64 u % 256 ^ n) (n : Nat) largest any = n64 u) : openV key iv msk (B ++ z) largest any = (⟨lg, kind, ver, dst, src, tok, sp, ph, n64 u, n⟩, text, 0) := by
 obtain ⟨n', hn, hm, h4, h2, rfl⟩ := sealR_yes h
 obtain rfl : n' = n := by omega
 obtain ⟨f1, f2, f3, f4, f5, f6, -, -⟩ := may_facts hm
 have hl := (headB_length (lg := lg) (kind := kind) (ver := ver) (dst := dst) (src := src) (tok := tok) (sp := sp) (ph := ph) (num := n64 u) (nl := n') (rest := text.length + 16) f4 f5 f6 (by omega)).2
 have hg := head_get hm hver (R := text.length + 16) (by omega) (sealed key (nonce iv u) text (headB lg kind ver dst src tok sp ph (n64 u) n' (text.length + 16))) z (sealed_length ..) hz
 exact open_pack (by omega) hg (fun hh => hz hh) rfl (by omega) (by omega) (by omega) hf
theorem pow_wide {n : Nat} (h1 : 1 ≤ n) (h4 : n ≤ 4) : Hdr.wide (n : Nat) = 256 ^ n ∧ (Hdr.wide (n : Nat) = 256 ∨ Hdr.wide (n : Nat) = 65536 ∨ Hdr.wide (n : Nat) = 16777216 ∨ Hdr.wide (n : Nat) = 4294967296) := by
 have : n = 1 ∨ n = 2 ∨ n = 3 ∨ n = 4 := by omega
 rcases this with rfl | rfl | rfl | rfl <;> decide
theorem full_near {num n largest : Nat} (h1 : 1 ≤ n) (h4 : n ≤ 4) (hn : num ≤ 4611686018427387903) (hl : largest + 1 ≤ num) (hw : num < largest + 1 + 256 ^ n / 2) : full (num % 256 ^ n) (n : Nat) largest true = num := by
 obtain ⟨e, hc⟩ := pow_wide h1 h4
 unfold full
 rw [if_neg (by omega), if_pos rfl]
 rw [← e] at hw ⊢
 exact fullW_back hc hl hw (by omega) (Nat.mod_mod _ _)
theorem full_first {n : Nat} (h1 : 1 ≤ n) (h4 : n ≤ 4) : full (0 % 256 ^ n) (n : Nat) 0 false = 0 := by
 have : n = 1 ∨ n = 2 ∨ n = 3 ∨ n = 4 := by omega
 rcases this with rfl | rfl | rfl | rfl <;> decide
end Vlt
