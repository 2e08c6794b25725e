/- The walks of package tone's Flat and Back. -/
import Derived.Test.YtenoldpfclmedaaTonW2
import Derived.Test.YtenoldpfclmedaaLibE
namespace Go.Proofs.Ytenoldpfclmedaa
open Go.RowKit Go.Rw Tone
attribute [local go_sem ↓] ldZ stZ alZ
attribute [local go_sem] rldZ rstZ ralZ setRow_alloc_at setRow_alloc_past setRow_drew run_store_cx
/-- does nothing go round? -/
def flatB (f : Nat → Int) : Bool := powV (re f 1) (im f 1) == 0 && powV (re f 2) (im f 2) == 0 && powV (re f 3) (im f 3) == 0
theorem flatB_true {f : Nat → Int} (h : ∀ k, k < 3 → powV (re f (k + 1)) (im f (k + 1)) = 0) : flatB f = true := by
  unfold flatB
  rw [h 0 (by omega), h 1 (by omega), h 2 (by omega)]; rfl
theorem flatB_false {f : Nat → Int} (k : Nat) (hk : k < 3) (h : powV (re f (k + 1)) (im f (k + 1)) ≠ 0) : flatB f = false := by
  unfold flatB
  rcases (by omega : k = 0 ∨ k = 1 ∨ k = 2) with rfl | rfl | rfl
  · rw [show (powV (re f 1) (im f 1) == 0) = false by simpa using h]; rfl
  · rw [show (powV (re f 2) (im f 2) == 0) = false by simpa using h]; simp
  · rw [show (powV (re f 3) (im f 3) == 0) = false by simpa using h]; simp
set_option maxHeartbeats 1000000 in
theorem flat_any (l : List Int) (hl : l.length ≤ 1048576) (v : Value) (w : World) (hv : Si w v l) :
    Calls Try.prog 16 #[v] w fun e w' => e = .returned (.bool (flatB (fN l))) ∧ Below w.heap.size w w' := by
  have HS := fun w' => sums_all l hl v w'
  have HV := Lib.hid hv
  have HT := Lib.hid (@flatB_true (fN l))
  have HF := Lib.hid (@flatB_false (fN l))
  clear hv
  go_enter Try.func16, Try.ntmps16
  go_wp2_with fail
  refine (HS _ HV.out).mono ?_
  rintro e w1 ⟨z, rfl, hz, hb⟩
  have HZ := Lib.hid hz
  clear hz HS
  go_wp2_with fail
  go_loopw [10] (fun v wr => ∃ i : Nat, i ≤ 3 ∧ v = .int .i64 i ∧ (∀ k, k < i → powV (re (fN l) (k + 1)) (im (fN l) (k + 1)) = 0) ∧ row? wr w1.heap.size = some (zv z) ∧ Below w.heap.size w wr) (fun v _ => 3 - (intOf v).toNat)
  case atStart => exact ⟨0, by omega, rfl, fun k hk => by omega, by simp [go_sem], hb.alloc hb.size _⟩
  case round =>
    obtain ⟨i, hi, rfl, hp, h0, hbw⟩ := hrel
    have HP := Lib.hid hp
    clear hp
    by_cases hlt : i < 3
    · have c1 := (row?_cell h0 (i + 1)).trans (zv_get z (i + 1) (by omega))
      rw [Nat.add_comm i 1] at c1
      obtain ⟨f1, f2⟩ := HZ.out (i + 1) (by omega)
      rw [Nat.add_comm i 1] at f1 f2
      have H0 := Lib.hid h0
      have F1 := Lib.hid f1
      have F2 := Lib.hid f2
      clear h0 f1 f2
      generalize (z (1 + i)).1 = a at *
      generalize (z (1 + i)).2 = b at *
      have hlt' : i < 2 + 1 := hlt
      obtain ⟨q, hq⟩ : ∃ q, powV (re (fN l) (1 + i)) (im (fN l) (1 + i)) = q := ⟨_, rfl⟩
      have HQ := Lib.hid hq
      clear hq
      go_wp2_with fail
      refine (power_any F1.out F2.out _).mono ?_
      rintro e w2 ⟨rfl, rfl⟩
      rw [HQ.out]
      by_cases hq0 : q = 0
      · subst hq0
        go_wp2_with fail
        go_roundw
        case rel =>
          refine ⟨i + 1, by omega, by go_num, fun k hk => ?_, H0.out, hbw⟩
          rcases Nat.lt_or_eq_of_le (Nat.le_of_lt_succ hk) with h | h
          · exact HP.out k h
          · rw [h, Nat.add_comm i 1]; exact HQ.out
        case measure => simp [intOf]; omega
      · have hf : flatB (fN l) = false := HF.out i hlt (by rw [Nat.add_comm i 1, HQ.out]; exact hq0)
        have HFF := Lib.hid hf
        clear hf
        go_wp2_with fail
        go_ret
        exact ⟨by rw [HFF.out]; rfl, hbw⟩
    · have hf : flatB (fN l) = true := HT.out (fun k hk => HP.out k (by omega))
      have HFF := Lib.hid hf
      clear hf
      go_wp2_with fail
      go_ret
      exact ⟨by rw [HFF.out]; rfl, hbw⟩
end Go.Proofs.Ytenoldpfclmedaa
