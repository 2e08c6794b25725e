/- The walk of package frame's All: the frames of bytes. -/
import Derived.Test.YtipniobgijdlkaaMgs15
namespace Go.Proofs.Ytipniobgijdlkaa
open Go.RowKit Go.Rw Frm Hdr
attribute [local go_sem ↓] ldFF stFF alFF
attribute [local go_sem] rldFF rstFF ralFF setRow_alloc_at setRow_alloc_past setRow_drew
theorem infoFr : (Try.prog.info? 28).map (fun i => (i.zero, i.size, i.bytes)) = some (some (.agg (fvA 0 0 0 (.slice none 0 0) 0 0 false (.slice none 0 0) (.slice none 0 0) (.slice none 0 0))), 10, 144) := by kernel_rfl
/-- What All answers. -/
def FAll (w : World) (q : List Fr × Int) (e : Ending) (w' : World) : Prop :=
  ∃ v, e = .returned (.tuple #[v, .int .i64 q.2]) ∧ OwnFs w' w.heap.size 28 v q.1 ∧ Below w.heap.size w w'
theorem fallGo_nil (k : Nat) (out : List Fr) : fallGo k [] out = if out.length = 0 then ([], 5) else (out, 0) := by cases k <;> simp [fallGo]
set_option maxRecDepth 100000 in
set_option maxHeartbeats 4000000 in
theorem fall_any (b : List UInt8) (hb : b.length ≤ 100000) (vb : Value) (w : World) (hs : Sl w vb b) :
    Calls Try.prog 36 #[vb] w (FAll w (fall b)) := by
  obtain ⟨i0, hi0, hz0, hz1, hz2⟩ := info_parts infoFr
  obtain ⟨q, hq⟩ : ∃ q, fall b = q := ⟨_, rfl⟩
  rw [hq]
  unfold fall at hq
  have HQ := Lib.hid hq
  have HS := Lib.hid hs
  obtain ⟨ao, cap, rfl, hc, -, -⟩ := id hs
  clear hq hs
  go_enter Try.func36, Try.ntmps36
  go_wp2_with fail
  go_loopw [0, 4, 5, 6, 7] (fun v0 v4 v5 v6 v7 wr => ∃ (k : Nat) (rest : List UInt8) (out : List Fr), rest.length ≤ b.length ∧ rest.length ≤ k ∧ Sl w v0 rest ∧ OwnFs wr w.heap.size 28 v4 out ∧ out.length ≤ 64 ∧ fallGo k rest out = q ∧ Below w.heap.size w wr) (fun v0 _ _ _ _ _ => lenOf v0)
  case atStart => exact ⟨b.length, b, [], Nat.le_refl _, Nat.le_refl _, HS.out, OwnFs.nil _ _ _, by simp, HQ.out, Below.refl _ _⟩
  case round =>
    obtain ⟨k, rest, out, hr1, hr2, hsr, hof, hol, hgo, hbw⟩ := hrel
    obtain ⟨a0, x0, rfl, hx0, -, -⟩ := id hsr
    obtain ⟨a4, x4, rfl⟩ := hof.shape
    have SR := Lib.hid hsr
    have OF := Lib.hid hof
    have GO := Lib.hid hgo
    have BW := Lib.hid hbw
    clear hsr hof hgo hbw HQ HS
    by_cases h0 : rest.length = 0
    case pos =>
      have p : decide (0 < rest.length) = false := decide_eq_false (by omega)
      have hgo := GO.out
      obtain rfl : rest = [] := List.eq_nil_of_length_eq_zero h0
      rw [fallGo_nil] at hgo
      by_cases ho : out.length = 0
      · rw [if_pos ho] at hgo
        subst hgo
        have q0 : ((out.length : Int) == 0) = true := by rw [beq_iff_eq]; omega
        clear GO ho h0
        go_wp2_with fail
        go_ret2
        exact ⟨_, rfl, OwnFs.nil _ _ _, BW.out⟩
      · rw [if_neg ho] at hgo
        subst hgo
        have q0 : ((out.length : Int) == 0) = false := by rw [beq_eq_false_iff_ne]; omega
        clear GO ho h0
        go_wp2_with fail
        go_ret2
        exact ⟨_, rfl, OF.out, BW.out⟩
    have p : decide (0 < rest.length) = true := decide_eq_true (by omega)
    obtain ⟨k, rfl⟩ : ∃ k', k = k' + 1 := ⟨k - 1, by omega⟩
    have hgo := GO.out
    unfold fallGo at hgo
    rw [if_neg h0] at hgo
    have hmany := fget_many (b := rest) (by omega)
    have hget := fget_any rest (by omega) (.slice a0 rest.length x0) wr (SR.out.below BW.out)
    obtain ⟨⟨f, many, er⟩, hfg⟩ : ∃ q, fget rest = q := ⟨_, rfl⟩
    rw [hfg] at hgo hmany hget
    simp only [] at hgo hmany
    have GO2 := Lib.hid hgo
    have HM := Lib.hid hmany
    have HG := Lib.hid hget
    have H0 := Lib.hid h0
    clear hgo hmany hget hfg h0 GO
    go_wp2_with fail
    refine HG.out.mono ?_
    rintro e w1 ⟨vf, rfl, fo, b1⟩
    obtain ⟨A, rfl, fva⟩ := fo.fva (g := (Value.slice a4 out.length x4).ownBlock) (fun k hk => (OF.out.lt k hk).2)
    have of1 := OF.out.below b1
    have hA10 := fva.size.1
    have hA1 := fva.size.2
    have FV := Lib.hid fva
    have OF1 := Lib.hid of1
    have BW1 := Lib.hid (BW.out.trans (b1.mono BW.out.size))
    clear fo of1 fva b1 HG OF BW
    simp only []
    by_cases h64 : out.length = 64
    case pos =>
      have hgo := GO2.out
      rw [if_pos h64, if_pos (by decide)] at hgo
      subst hgo
      have q64 : ((out.length : Int) == 64) = true := by rw [beq_iff_eq]; omega
      have H64 := Lib.hid h64
      clear h64 GO2
      go_wp2_with fail
      go_ret2
      exact ⟨_, rfl, OwnFs.nil _ _ _, BW1.out.alloc BW1.out.size _⟩
    have q64 : ((out.length : Int) == 64) = false := by rw [beq_eq_false_iff_ne]; omega
    by_cases he : er = 0
    case neg =>
      have hgo := GO2.out
      rw [if_neg h64, if_pos he] at hgo
      subst hgo
      have qe : (er != 0) = true := by simpa using he
      have H64 := Lib.hid h64
      have HE := Lib.hid he
      clear h64 GO2 he
      go_wp2_with fail
      go_ret2
      exact ⟨_, rfl, OwnFs.nil _ _ _, BW1.out.alloc BW1.out.size _⟩
    subst he
    have hgo := GO2.out
    rw [if_neg h64, if_neg (by decide)] at hgo
    have hm := HM.out rfl
    obtain ⟨out2, ho2⟩ : ∃ o, out ++ [f] = o := ⟨_, rfl⟩
    have kout : out2.length ≤ 64 := by rw [← ho2]; simp only [List.length_append, List.length_cons, List.length_nil]; omega
    rw [ho2] at hgo
    have GO3 := Lib.hid hgo
    have HO2 := Lib.hid ho2
    clear hgo GO2 HM ho2
    have hol2 : out.length + 1 ≤ 64 := by omega
    have H64 := Lib.hid h64
    clear h64
    have hcut : ∀ W, (Instr.sliceAt 25 (.slice a0 rest.length x0) (some (.int .i64 (many : Nat))) none none).run Try.prog W = .ok (.slice (cutA a0 many x0) (rest.length - many) (x0 - many)) W := fun W => by
      rw [cut_l TB W _ _ _ _ _ (by omega) (by omega), Int.toNat_natCast]
    have hsc := SR.out.cut many rest.length hm.2 (Nat.le_refl _)
    rw [List.take_length] at hsc
    have SC := Lib.hid hsc
    clear hsc
    have bA := (Below.refl w1.heap.size w1).alloc (Nat.le_refl _) (.cells A 28)
    have bB := (Below.refl (w1.alloc (.cells A 28)).heap.size (w1.alloc (.cells A 28))).alloc (Nat.le_refl _) (.cells A 28)
    have FV2 := Lib.hid ((FV.out.below bA).below bB)
    have OF2 := Lib.hid ((OF1.out.below bA).below bB)
    have RA := Lib.hid (show row? ((w1.alloc (.cells A 28)).alloc (.cells A 28)) (w1.heap.size + 1) = some A from row?_alloc_at _ _ _ _ (by simp))
    have BW2 := Lib.hid ((BW1.out.alloc BW1.out.size (.cells A 28)).alloc (by have := BW1.out.size; simp; omega) (.cells A 28))
    clear bA bB
    have hfold := fold_cells A hA10
    go_wp2_with (at_builtin; refine Classical.byContradiction ?_)
    intro hh; apply hh; clear hh
    refine app_fs rfl _ _ 32 rfl w.heap.size 28 i0 _ 144 Try.underlying32 hi0 hz0 rfl hz1 hz2 (by decide) (.slice a4 out.length x4) out rfl OF2.out (w1.heap.size + 1) 1 A f rfl RA.out FV2.out (by omega) (by have := BW2.out.size; exact this) ?_
    intro v5 w5 of5 g5
    rw [HO2.out] at of5
    obtain ⟨a5, x5, rfl⟩ := of5.shape
    have OF5 := Lib.hid of5
    have BW5 := Lib.hid (BW2.out.grown g5 BW2.out.size (fun k hk => (OF2.out.lt k hk).1))
    clear of5 g5 hfold
    go_wp2_with fail
    go_roundw
    case rel =>
      refine ⟨k, (rest.drop many), out2, by rw [List.length_drop]; omega, by rw [List.length_drop]; omega, ?_, OF5.out, kout, GO3.out, BW5.out⟩
      exact SC.out
    case measure => show lenOf (Value.slice _ _ _) < lenOf (Value.slice _ _ _); simp [lenOf]; omega
end Go.Proofs.Ytipniobgijdlkaa
