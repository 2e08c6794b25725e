/- AesKeys holds: the first round key is the key, each next one's columns are crossed from those ahead. For every key and every number; no condition. -/
import Derived.Test.YtjmbafnnofflnaaAesL1
import Derived.Test.YtjmbafnnofflnaaLow
namespace Go.Proofs.Ytjmbafnnofflnaa
open Go.ChangeShapes Go.WideShapes Go.ChangeAt Go.RowKit Go.Rw Aes
attribute [local go_sem high] not_u8 eq16 eq176
attribute [local go_sem ↓] ld16 st16 al16 ld176 st176 al176 shift_shl8 shift_shr8 bvs_getElem?
attribute [local go_sem] rst16p rld16p rld16 rst16 ral16 rld176 rst176 ral176 setRow_alloc_at setRow_alloc_past setRow_drew bvs_setn


theorem keys_nth (key : List UInt8) (p : Nat) (h : p < 176) : nth (keys key) p = keyF key p := by simp [nth, keys, h]
theorem keys_hi (key : List UInt8) (j i : Nat) (hj : j < 10) (h4 : 4 ≤ i) (hi : i < 16) :
    nth (keys key) ((1 + j) * 16 + i) = nth (keys key) (j * 16 + i) ^^^ nth (keys key) ((1 + j) * 16 + (i - 4)) := by
  rw [keys_nth _ _ (by omega), keys_nth _ _ (by omega), keys_nth _ _ (by omega), show (1 + j) * 16 + i = 16 * (j + 1) + i by omega, keyF_hi key j i h4 hi, show j * 16 + i = 16 * j + i by omega, keyF_at _ _ _ hi, show (1 + j) * 16 + (i - 4) = 16 * (j + 1) + (i - 4) by omega]
theorem keys_lo (key : List UInt8) (j i : Nat) (hj : j < 10) (h0 : i ≠ 0) (hi : i < 4) :
    nth (keys key) ((1 + j) * 16 + i) = nth (keys key) (j * 16 + i) ^^^ box (nth (keys key) (j * 16 + (12 + (i + 1) % 4))) := by
  rw [keys_nth _ _ (by omega), keys_nth _ _ (by omega), keys_nth _ _ (by omega), show (1 + j) * 16 + i = 16 * (j + 1) + i by omega, keyF_lo key j i hi h0, show j * 16 + i = 16 * j + i by omega, keyF_at _ _ _ (by omega), show j * 16 + (12 + (i + 1) % 4) = 16 * j + (12 + (i + 1) % 4) by omega, keyF_at _ _ _ (by omega)]
theorem keys_first (key : List UInt8) (j : Nat) (hj : j < 10) :
    nth (keys key) ((1 + j) * 16) = nth (keys key) (j * 16) ^^^ box (nth (keys key) (j * 16 + 13)) ^^^ rcon j := by
  have e := keyF_at key j 0 (by omega)
  rw [Nat.add_zero] at e
  rw [keys_nth _ _ (by omega), keys_nth _ _ (by omega), keys_nth _ _ (by omega), show (1 + j) * 16 = 16 * (j + 1) by omega, keyF_first, show j * 16 = 16 * j by omega, e, keyF_at _ _ _ (by omega)]
set_option maxRecDepth 10000 in
set_option maxHeartbeats 1000000 in
theorem keysLaw_any (key : List UInt8) (hk : key.length = 16) (x : Int) (w : World) :
    Calls Try.prog 4 #[.agg (bvs key), .int .i64 x] w fun e w' => e = .returned (.bool true) ∧ Below w.heap.size w w' := by
  have hkl := keys_length key
  have l10 := low_lt x 10 (by omega)
  generalize hl : low x 10 = l at l10
  have HL := Lib.hid hl; clear hl
  go_enter Try.func4, Try.ntmps4
  go_wp2_with fail
  refine (keys_any key hk _).mono ?_
  rintro e w1 ⟨rfl, hb1⟩
  have z1 := hb1.size
  simp at z1
  have r0 : row? w1 w.heap.size = some (bvs key) := by rw [row?_below hb1 (by simp)]; simp [go_sem]
  have b1 : Below w.heap.size w w1 := ((Below.refl _ _).alloc (Nat.le_refl _) _).trans (hb1.mono (by simp))
  clear hb1
  have lz : w.heap.size < w1.heap.size := by omega
  go_wp2_with fail
  refine (low_any x 10 (by omega) (by omega) _).mono ?_
  rintro e w2 ⟨rfl, rfl⟩
  rw [HL.out]
  go_wp2_with fail
  go_loop [7, 8] (fun c v => ∃ j : Nat, j ≤ l ∧ v = .int .i64 (j + 1 : Nat) ∧ c = .int .u8 (n8 (rcon j) : Nat)) (fun _ v => 16 - (intOf v).toNat)
  case atStart => exact ⟨0, by omega, rfl, rfl⟩
  case round =>
    obtain ⟨j, hj, rfl, rfl⟩ := hrel
    by_cases hlt : j < l
    · go_wp2_with (go_at_call 13; refine (double_any _ _).mono ?_; rintro e w' ⟨rfl, rfl⟩)
      go_round
      case rel => exact ⟨j + 1, by omega, by go_num, rfl⟩
      case measure => simp [intOf]; omega
    · obtain rfl : j = l := by omega
      go_wp2_with fail
      go_loop [9, 10] (fun v _ => ∃ i : Nat, i ≤ 16 ∧ v = .int .i64 i) (fun v _ => 16 - (intOf v).toNat)
      case atStart => exact ⟨0, by omega, rfl⟩
      case round =>
        obtain ⟨i, hi, rfl⟩ := hrel
        by_cases h16 : i < 16
        · by_cases h4 : 4 ≤ i
          · have e := keys_hi key j i l10 h4 h16
            go_wp2_with fail
            go_round
            case rel => exact ⟨i + 1, by omega, by go_num⟩
            case measure => simp [intOf]; omega
          · by_cases h0 : i = 0
            · subst h0
              have e := keys_first key j l10
              go_wp2_with (go_at_call 11; refine (box_any _ _).mono ?_; rintro e w' ⟨rfl, rfl⟩)
              go_round
              case rel => exact ⟨1, by omega, rfl⟩
              case measure => simp [intOf]
            · have e := keys_lo key j i l10 h0 (by omega)
              have h0' : ((i : Int) == 0) = false := by rw [beq_eq_false_iff_ne]; omega
              go_wp2_with (go_at_call 11; refine (box_any _ _).mono ?_; rintro e w' ⟨rfl, rfl⟩)
              go_round
              case rel => exact ⟨i + 1, by omega, by go_num⟩
              case measure => simp [intOf]; omega
        · obtain rfl : i = 16 := by omega
          have k0 : (bvs (keys key)).extract 0 16 = bvs key := by
            have := keys_part key hk 0 (by omega)
            rw [bvs_extract]; exact congrArg bvs this
          go_wp2_with (go_at_call 15; refine (awake_any _).mono ?_; rintro e w' ⟨rfl, hb⟩)
          go_ret
          exact ⟨rfl, (b1.alloc (by omega) _).trans (hb.mono (by simp; omega))⟩
namespace aesKeysP
theorem own : ownKnob Try.prog.godebug = none := by kernel_rfl
theorem laidOut : laidOutB Try.prog = true := by kernel_rfl
theorem readable : (Try.f4.params.toList.all fun t => Try.prog.readableRec t && decide (t < Try.prog.types.size)) = true := by kernel_rfl
theorem contract (H : Type) (enc : TypeId × Value → H) (W : World) (base : Nat) (args : Array Value) (ds gs : List (DataW H)) (before : List MemPlace)
    (hval : ∀ (j : Nat) t v, Try.f4.params[j]? = some t → args[j]? = some v → Value.okWide Try.prog W .any base t v)
    (hW : DataW.Whole enc Try.prog Try.f4.params.toList Rows.aesKeysSpec.vars false W args.toList ds gs before) :
    Calls Try.prog 4 args W fun e W' => ∃ v, e = .returned v ∧ Rows.aesKeysSpec.post enc Try.prog Try.f4 false true false false W args v W' := by
  have hW' := hW
  obtain ⟨p, q, hA0, hV, rfl, hfz, hnd⟩ := hW
  have hA : DataW.TrodAll enc Try.prog W 0 (fun _ => true) true Try.f4.params.toList args.toList ds p := hA0
  rw [Try.params4] at hA hval
  obtain ⟨v0, vs0, d0, ds0, p0, q0, hargs, rfl, rfl, h0, r0⟩ := trodAll_cons hA
  obtain ⟨v1, vs1, d1, ds1, p1, q1, rfl, rfl, rfl, h1, r1⟩ := trodAll_cons r0
  obtain ⟨rfl, rfl, rfl⟩ := trodAll_nil r1
  obtain rfl : args = #[v0, v1] := by cases args; simp_all
  obtain ⟨key, hk, rfl⟩ := Law.open_bytes Try.underlying22 (by kernel_rfl) ⟨List.replicate 16 5, by kernel_rfl, by kernel_rfl⟩ Try.underlying5 (hval 0 22 v0 rfl rfl)
  obtain ⟨x, rfl, _, _⟩ := Law.open_i64 Try.underlying3 (hval 1 3 v1 rfl rfl)
  refine (keysLaw_any key hk x W).mono fun e W' ⟨he, hb⟩ => ?_
  subst he
  exact ⟨_, rfl, Law.post_of_law laidOut readable hW' rfl hb rfl Try.underlying4 rfl rfl rfl⟩
set_option maxRecDepth 100000 in
theorem lifted (os : Os) (started : os.Started) (H : Type) (enc : TypeId × Value → H) :
    ReturnsInHanded {} Try.checked os 4 .any (Rows.aesKeysSpec.pre6 enc Try.prog Try.f4 Rows.aesKeysRow.domain false) (Rows.aesKeysSpec.post enc Try.prog Try.f4 false true false false) := by
  refine returnsInHanded_of_change (C := Try.checked) own started (by kernel_rfl) Try.func4
    (ChangeSpec.witness6 (enc := enc) (C := Try.checked) false ⟨#[], #[.agg #[.int .u8 0, .int .u8 0, .int .u8 0, .int .u8 0, .int .u8 0, .int .u8 0, .int .u8 0, .int .u8 0, .int .u8 0, .int .u8 0, .int .u8 0, .int .u8 0, .int .u8 0, .int .u8 0, .int .u8 0, .int .u8 0], .int .i64 0], []⟩ 8 (by kernel_rfl) (by kernel_rfl) (by kernel_rfl) (by kernel_rfl)) ?_
  intro W base args ds gs before hval hW _ _
  exact contract H enc W base args ds gs before hval hW
theorem said : Rows.AesKeysSaid :=
  OpenClaim.holds_of_wide 4 Try.f4 rfl rfl rfl rfl rfl rfl rfl ⟨rfl, rfl, rfl, rfl, rfl⟩ rfl rfl rfl rfl rfl (by kernel_rfl) Try.func4 (by kernel_rfl)
    (of_decide_eq_true (by kernel_rfl)) (by unfold Func.isWrapper; first | (rw [if_pos (by decide +kernel)]; kernel_rfl) | (rw [if_neg (by decide +kernel)]; exact ⟨rfl, rfl⟩))
    (fun os started H enc _ => lifted os started H enc)
end aesKeysP
end Go.Proofs.Ytjmbafnnofflnaa
