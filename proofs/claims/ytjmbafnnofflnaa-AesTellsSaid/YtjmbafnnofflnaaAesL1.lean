/- AesBoxes, AesKeys, AesByHand: the law functions' walks. -/
import Derived.Test.YtjmbafnnofflnaaAesW3
import Derived.Test.YtjmbafnnofflnaaAesP
import Derived.Test.YtjmbafnnofflnaaLaw
import Derived.Test.YtjmbafnnofflnaaLibE
namespace Go.Proofs.Ytjmbafnnofflnaa
open Go.RowKit Go.Rw Aes
attribute [local go_sem ↓] ld16 st16 al16 ld176 st176 al176 shift_shl8 shift_shr8 bvs_getElem?
attribute [local go_sem] rst16p rld16p rld16 rst16 ral16 rld176 rst176 ral176 setRow_alloc_at setRow_alloc_past setRow_drew bvs_setn

def ak : List UInt8 := [0, 1, 2, 3, 4, 5, 6, 7, 8, 9, 10, 11, 12, 13, 14, 15]
def ai : List UInt8 := [0, 17, 34, 51, 68, 85, 102, 119, 136, 153, 170, 187, 204, 221, 238, 255]
theorem awake_0 : nth (block ak ai) 0 = 0x69 := by decide +kernel
theorem awake_1 : nth (block ak ai) 1 = 0xc4 := by decide +kernel
theorem awake_15 : nth (block ak ai) 15 = 0x5a := by decide +kernel
theorem awake_box : box 0 = 99 := by decide +kernel
theorem awake_double : double 128 = 27 := by decide +kernel
set_option maxHeartbeats 1000000 in
theorem awake_any (w : World) :
    Calls Try.prog 15 #[] w fun e w' => e = .returned (.bool true) ∧ Below w.heap.size w w' := by
  have fk : #[Value.int .u8 0, Value.int .u8 1, Value.int .u8 2, Value.int .u8 3, Value.int .u8 4, Value.int .u8 5, Value.int .u8 6, Value.int .u8 7, Value.int .u8 8, Value.int .u8 9, Value.int .u8 10, Value.int .u8 11, Value.int .u8 12, Value.int .u8 13, Value.int .u8 14, Value.int .u8 15] = bvs ak := rfl
  have fi : #[Value.int .u8 0, Value.int .u8 17, Value.int .u8 34, Value.int .u8 51, Value.int .u8 68, Value.int .u8 85, Value.int .u8 102, Value.int .u8 119, Value.int .u8 136, Value.int .u8 153, Value.int .u8 170, Value.int .u8 187, Value.int .u8 204, Value.int .u8 221, Value.int .u8 238, Value.int .u8 255] = bvs ai := rfl
  have lk : ak.length = 16 := rfl
  have li : ai.length = 16 := rfl
  have e0 := awake_0
  have e1 := awake_1
  have e15 := awake_15
  have eb := awake_box
  have ed := awake_double
  go_enter Try.func15, Try.ntmps15
  go_wp2_with fail
  refine (block_any ak ai lk li _).mono ?_
  rintro e w1 ⟨rfl, hb1⟩
  have z1 := hb1.size
  simp at z1
  have b1 : Below w.heap.size w w1 := ((Below.refl _ _).alloc (Nat.le_refl _) _).trans (hb1.mono (by simp))
  clear hb1
  go_wp2_with (first
    | (go_at_call 11; refine (box_any 0 _).mono ?_; rintro e w' ⟨rfl, rfl⟩)
    | (go_at_call 13; refine (double_any 128 _).mono ?_; rintro e w' ⟨rfl, rfl⟩))
  go_ret
  exact ⟨rfl, b1.alloc (by omega) _⟩


theorem one8 : (Try.prog.info? 5).map (·.size) = some 1 := by kernel_rfl
theorem eq16 (a b : List UInt8) (ha : a.length = 16) (hb : b.length = 16) (w : World) : (Op.equalIn 10000 22 (.agg (bvs a)) (.agg (bvs b))).run Try.prog w = .ok (a == b) w :=
  run_equalIn_bytes 9998 Try.underlying22 Try.underlying5 one8 a b ha hb w
theorem eq176 (a b : List UInt8) (ha : a.length = 176) (hb : b.length = 176) (w : World) : (Op.equalIn 10000 24 (.agg (bvs a)) (.agg (bvs b))).run Try.prog w = .ok (a == b) w :=
  run_equalIn_bytes2 9997 Try.underlying24 Try.underlying22 Ag16 Try.underlying5 one8 a b ha hb w
end Go.Proofs.Ytjmbafnnofflnaa
