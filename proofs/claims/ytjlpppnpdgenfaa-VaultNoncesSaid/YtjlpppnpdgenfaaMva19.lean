/- HdrTe; VltI. -/
import Derived.Test.YtjlpppnpdgenfaaMva18
import Derived.Test.YtjlpppnpdgenfaaMvaHdrR4
import Derived.Test.YtjlpppnpdgenfaaMva9
import Derived.Test.YtjlpppnpdgenfaaMva14
import Derived.Test.YtjlpppnpdgenfaaMva16
import Derived.Test.YtjlpppnpdgenfaaMvaHdrW12
import Derived.Test.YtjlpppnpdgenfaaMva17
section
/- The walk of the row HeaderTells. -/
namespace Go.Proofs.Ytjlpppnpdgenfaa
open Go.RowKit Go.Rw Hdr
/-- What is laid, by the program and by the document. -/
theorem put_both (lg : Bool) (kind : Int) (ver : Nat) (dst src tok : List UInt8) (sp ph : Bool) (num : Nat) (nl : Int) (rest : Int) (hver : ver < 4294967296) :
    ∃ (B : List UInt8) (x : Int), B.length ≤ 1000 ∧
      (∀ (ad as_ at_ : Option Addr) (cd cs ct : Nat) (w : World), Sl w (.slice ad dst.length cd) dst → Sl w (.slice as_ src.length cs) src → Sl w (.slice at_ tok.length ct) tok → Calls Try.prog 28 #[.agg (hvA lg kind ver (.slice ad dst.length cd) (.slice as_ src.length cs) (.slice at_ tok.length ct) sp ph num nl), .int .i64 rest] w fun e w' => ∃ v, e = .returned (.tuple #[v, .int .i64 x]) ∧ Sl w' v B ∧ Below w.heap.size w w') ∧
      (∀ (ad as_ at_ : Option Addr) (cd cs ct : Nat) (w : World), Sl w (.slice ad dst.length cd) dst → Sl w (.slice as_ src.length cs) src → Sl w (.slice at_ tok.length ct) tok → Calls Try.prog 33 #[.agg (hvA lg kind ver (.slice ad dst.length cd) (.slice as_ src.length cs) (.slice at_ tok.length ct) sp ph num nl), .int .i64 rest] w fun e w' => ∃ v, e = .returned (.tuple #[v, .int .i64 x]) ∧ Sl w' v B ∧ Below w.heap.size w w') := by
  by_cases h : mayN lg kind ver dst.length src.length tok.length sp ph num nl = false ∨ rest < 0 ∨ 16383 - nl < rest
  · refine ⟨[], 2, by simp, fun ad as_ at_ cd cs ct w _ _ _ => ?_, fun ad as_ at_ cd cs ct w _ _ _ => ?_⟩
    · refine (put_no lg kind ver ad as_ at_ dst.length src.length tok.length cd cs ct sp ph num nl rest h w).mono ?_
      rintro e w' ⟨rfl, b⟩
      exact ⟨_, rfl, Sl.nil _, b⟩
    · refine (rput_no lg kind ver ad as_ at_ dst.length src.length tok.length cd cs ct sp ph num nl rest h w).mono ?_
      rintro e w' ⟨rfl, b⟩
      exact ⟨_, rfl, Sl.nil _, b⟩
  · have hm : mayN lg kind ver dst.length src.length tok.length sp ph num nl = true := by
      cases hq : mayN lg kind ver dst.length src.length tok.length sp ph num nl with
      | true => rfl
      | false => exact absurd (.inl hq) h
    have hr0 : 0 ≤ rest := by omega
    have hr1 : rest ≤ 16383 - nl := by omega
    obtain ⟨n, rfl⟩ : ∃ n : Nat, nl = n := ⟨nl.toNat, by
      unfold mayN at hm
      split at hm
      · cases hm
      · omega⟩
    obtain ⟨q, rfl⟩ : ∃ q : Nat, rest = q := ⟨rest.toNat, by omega⟩
    obtain ⟨⟨h1, h4⟩, hn, hd, hs, ht, -⟩ := put_ok lg kind ver dst src tok sp ph num n 0 hm hver (by decide)
    have hm' := hm
    unfold mayN at hm'
    rw [if_neg (by omega)] at hm'
    cases lg
    · rw [if_pos rfl] at hm'
      obtain ⟨rfl, rfl, hs0, ht0⟩ := of_decide_eq_true hm'
      obtain rfl : src = [] := List.eq_nil_of_length_eq_zero hs0
      obtain rfl : tok = [] := List.eq_nil_of_length_eq_zero ht0
      exact ⟨[first sp ph n] ++ dst ++ be num n, 0, by simp [be_length, hd]; omega, fun ad as_ at_ cd cs ct w h1' _ _ => put_short2 dst hd _ as_ at_ cs ct sp ph num n q h1 h4 (by omega) hr0 hr1 w h1', fun ad as_ at_ cd cs ct w h1' _ _ => rput_short dst hd _ as_ at_ cs ct sp ph num n q h1 h4 (by omega) hr0 hr1 w h1'⟩
    · rw [if_neg (by decide)] at hm'
      obtain ⟨hk, -, -, rfl, rfl⟩ := of_decide_eq_true hm'
      have hl : (longTok kind tok).length ≤ 108 := by
        unfold longTok; split
        · have := vlen_le tok.length; simp [vin_length]; omega
        · simp
      refine ⟨longB kind ver dst src tok num n q, 0, by unfold longB; simp [be_length, vin_length, hd]; omega, fun ad as_ at_ cd cs ct w h1' h2' h3' => ?_, fun ad as_ at_ cd cs ct w h1' h2' h3' => rput_long kind ver dst src tok _ _ _ num n q hm hver hr1 w h1' h2' h3'⟩
      refine (put_long kind ver dst src tok _ _ _ num n q hm hver hr1 w h1' h2' h3').mono ?_
      rintro e w' ⟨v, rfl, o, b⟩
      exact ⟨v, rfl, Own.sl o, b⟩
attribute [local go_sem ↓] ldH stH alH bdR bdH hvA_0 hvA_1 hvA_2 hvA_3 hvA_4 hvA_5 hvA_6 hvA_7 hvA_8 hvA_9
attribute [local go_sem] rldH rstH ralH setRow_alloc_at setRow_alloc_past setRow_drew

end Go.Proofs.Ytjlpppnpdgenfaa
end
section
/- All that the vault's texts stand on, side by side. -/
end
