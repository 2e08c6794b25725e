/- What package header's Put answers at a header that may be, and that its bytes are read as that header. No condition. -/
import Derived.Test.YtgaheodnembjiaaHdrT1
import Derived.Test.YtgaheodnembjiaaHdrW4
import Derived.Test.YtgaheodnembjiaaHdrW12
import Derived.Test.YtgaheodnembjiaaHdrW14
namespace Go.Proofs.Ytgaheodnembjiaa
open Go.RowKit Go.Rw Hdr
theorem put_ok (lg : Bool) (kind : Int) (ver : Nat) (dst src tok : List UInt8) (sp ph : Bool) (num nl R : Nat) (hm : mayN lg kind ver dst.length src.length tok.length sp ph num nl = true) (hver : ver < 4294967296) (hR : R ≤ 1001) :
    (1 ≤ nl ∧ nl ≤ 4) ∧ num ≤ 4611686018427387903 ∧ dst.length = 8 ∧ src.length ≤ 20 ∧ tok.length ≤ 100 ∧
    ∃ BB : List UInt8, BB.length ≤ 1000 ∧ 1 ≤ BB.length ∧ (∀ z : List UInt8, z.length = R → get (BB ++ z) = (⟨lg, kind, ver, dst, src, tok, sp, ph, num % 256 ^ nl, nl⟩, BB.length, R, 0)) ∧
      ∀ (vd vs vt : Value) (w : World), Sl w vd dst → Sl w vs src → Sl w vt tok → Calls Try.prog 10 #[.agg (hvA lg kind ver vd vs vt sp ph num nl), .int .i64 (R : Nat)] w fun e w' => ∃ v, e = .returned (.tuple #[v, .int .i64 0]) ∧ Sl w' v BB ∧ Below w.heap.size w w' := by
  have hm' := hm
  unfold mayN at hm'
  by_cases h0 : (nl : Int) < 1 ∨ 4 < (nl : Int) ∨ 4611686018427387903 < num ∨ dst.length ≠ 8
  · rw [if_pos h0] at hm'; cases hm'
  rw [if_neg h0] at hm'
  have h1 : 1 ≤ nl := by omega
  have h4 : nl ≤ 4 := by omega
  have hn : num ≤ 4611686018427387903 := by omega
  have hd : dst.length = 8 := by omega
  cases lg
  · rw [if_pos rfl] at hm'
    obtain ⟨rfl, rfl, hs, ht⟩ := of_decide_eq_true hm'
    obtain rfl : src = [] := List.eq_nil_of_length_eq_zero hs
    obtain rfl : tok = [] := List.eq_nil_of_length_eq_zero ht
    refine ⟨⟨h1, h4⟩, hn, hd, by simp, by simp, [first sp ph nl] ++ dst ++ be num nl, by simp [be_length, hd]; omega, by simp, ?_, ?_⟩
    · intro z hz
      rw [get_shortB sp ph dst z num nl hd h1 h4, hz]
      simp [be_length, hd]; omega
    · intro vd vs vt w h1' h2' h3'
      obtain ⟨as_, cs, rfl, -, -, -⟩ := h2'
      obtain ⟨at_, ct, rfl, -, -, -⟩ := h3'
      exact put_short dst hd vd as_ at_ cs ct sp ph num nl R h1 h4 (by omega) (by omega) (by omega) w h1'
  · rw [if_neg (by decide)] at hm'
    obtain ⟨hk, hs, ht, rfl, rfl⟩ := of_decide_eq_true hm'
    have hl : (longTok kind tok).length ≤ 108 := by
      unfold longTok; split
      · have := vlen_le tok.length; simp [vin_length]; omega
      · simp
    refine ⟨⟨h1, h4⟩, hn, hd, hs, ht, longB kind ver dst src tok num nl R, by unfold longB; simp [be_length, vin_length, hd]; omega, by unfold longB; simp, ?_, ?_⟩
    · intro z hz
      exact get_longB kind ver dst src tok z num nl R (by rcases hk with h | h; exact .inl h; exact .inr ⟨h.1, List.eq_nil_of_length_eq_zero h.2⟩) hver hd hs ht h1 h4 (by omega) (by omega)
    · intro vd vs vt w h1' h2' h3'
      refine (put_long kind ver dst src tok vd vs vt num nl R hm hver (by omega) w h1' h2' h3').mono ?_
      rintro e w' ⟨v, rfl, o, b⟩
      exact ⟨v, rfl, Own.sl o, b⟩
end Go.Proofs.Ytgaheodnembjiaa
