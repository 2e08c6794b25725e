/- AesM; LibL. -/
import Derived.Test.YthjbmggpleliaaaGreatDoorMhb1
import Derived.Test.YthjbmggpleliaaaGreatDoorMhb2
import Derived.Lib.SlBytesConst
import Derived.Test.YthjbmggpleliaaaGreatDoorProg
section
namespace Aes
open Go.Rw
def upto (f : Nat → UInt8) (z : List UInt8) (n k : Nat) : List UInt8 := (List.range n).map fun i => if i < k then f i else nth z i
@[go_sem] theorem upto_length (f z n k) : (upto f z n k).length = n := by simp [upto]
theorem upto_get {f : Nat → UInt8} {z : List UInt8} {n k i : Nat} (h : i < n) : nth (upto f z n k) i = if i < k then f i else nth z i := by simp [nth, upto, h]
theorem upto_lo {f : Nat → UInt8} {z : List UInt8} {n k i : Nat} (h : i < n) (hk : i < k) : nth (upto f z n k) i = f i := by rw [upto_get h, if_pos hk]
theorem upto_hi {f : Nat → UInt8} {z : List UInt8} {n k i : Nat} (h : i < n) (hk : k ≤ i) : nth (upto f z n k) i = nth z i := by rw [upto_get h, if_neg (by omega)]
theorem ext16 {a b : List UInt8} {n : Nat} (ha : a.length = n) (hb : b.length = n) (h : ∀ i, i < n → nth a i = nth b i) : a = b := by
 apply List.ext_getElem (by omega)
 intro i h1 h2
 have := h i (by omega)
 simpa [nth, h1, h2] using this
theorem upto_zero (f : Nat → UInt8) (z : List UInt8) (n : Nat) (hz : z.length = n) : upto f z n 0 = z := by
 apply ext16 (upto_length ..) hz
 intro i hi; rw [upto_get hi, if_neg (by omega)]
theorem set_get (l : List UInt8) (i j : Nat) (b : UInt8) (hi : i < l.length) : nth (l.set i b) j = if i = j then b else nth l j := by
 unfold nth
 rw [List.getElem?_set]; split
 ·rename_i e; subst e; simp
 ·rfl
theorem upto_set (f : Nat → UInt8) (z : List UInt8) (n k : Nat) (hk : k < n) : (upto f z n k).set k (f k) = upto f z n (k + 1) := by
 apply ext16 (by simp [upto_length]) (upto_length ..)
 intro i hi
 rw [set_get _ _ _ _ (by rw [upto_length]; exact hk), upto_get hi, upto_get hi]
 split
 ·rename_i h; subst h; rw [if_pos (by omega)]
 ·split
  ·rw [if_pos (by omega)]
  ·rw [if_neg (by omega)]
theorem upto_congr {f g : Nat → UInt8} {z : List UInt8} {n k : Nat} (h : ∀ i, i < k → i < n → f i = g i) : upto f z n k = upto g z n k := by
 apply ext16 (upto_length ..) (upto_length ..)
 intro i hi
 rw [upto_get hi, upto_get hi]
 split
 ·rename_i hk; rw [h i hk hi]
 ·rfl
theorem upto_full (f : Nat → UInt8) (z : List UInt8) (n : Nat) : upto f z n n = (List.range n).map f := by
 apply ext16 (upto_length ..) (by simp)
 intro i hi
 rw [upto_lo hi hi]; simp [nth, hi]
def zeros (n : Nat) : List UInt8 := List.replicate n 0
@[go_sem] theorem zeros_length (n : Nat) : (zeros n).length = n := by simp [zeros]
theorem zeros_drop (n k : Nat) : (zeros n).drop k = zeros (n - k) := by simp [zeros]
theorem nth_zeros (n i : Nat) : nth (zeros n) i = 0 := by
 unfold nth zeros
 rw [List.getElem?_replicate]; split <;> rfl
theorem nth_append (a b : List UInt8) (i : Nat) : nth (a ++ b) i = if i < a.length then nth a i else nth b (i - a.length) := by
 unfold nth
 split
 ·rename_i h; rw [List.getElem?_append_left h]
 ·rename_i h; rw [List.getElem?_append_right (by omega)]
def double (b : UInt8) : UInt8 := if b &&& 128 != 0 then shl8 b 1 ^^^ 27 else shl8 b 1
def boxTab : List UInt8 := [99, 124, 119, 123, 242, 107, 111, 197, 48, 1, 103, 43, 254, 215, 171, 118, 202, 130, 201, 125, 250, 89, 71, 240, 173, 212, 162, 175, 156, 164, 114, 192, 183, 253, 147, 38, 54, 63, 247, 204, 52, 165, 229, 241, 113, 216, 49, 21, 4, 199, 35, 195, 24, 150, 5, 154, 7, 18, 128, 226, 235, 39, 178, 117, 9, 131, 44, 26, 27, 110, 90, 160, 82, 59, 214, 179, 41, 227, 47, 132, 83, 209, 0, 237, 32, 252, 177, 91, 106, 203, 190, 57, 74, 76, 88, 207, 208, 239, 170, 251, 67, 77, 51, 133, 69, 249, 2, 127, 80, 60, 159, 168, 81, 163, 64, 143, 146, 157, 56, 245, 188, 182, 218, 33, 16, 255, 243, 210, 205, 12, 19, 236, 95, 151, 68, 23, 196, 167, 126, 61, 100, 93, 25, 115, 96, 129, 79, 220, 34, 42, 144, 136, 70, 238, 184, 20, 222, 94, 11, 219, 224, 50, 58, 10, 73, 6, 36, 92, 194, 211, 172, 98, 145, 149, 228, 121, 231, 200, 55, 109, 141, 213, 78, 169, 108, 86, 244, 234, 101, 122, 174, 8, 186, 120, 37, 46, 28, 166, 180, 198, 232, 221, 116, 31, 75, 189, 139, 138, 112, 62, 181, 102, 72, 3, 246, 14, 97, 53, 87, 185, 134, 193, 29, 158, 225, 248, 152, 17, 105, 217, 142, 148, 155, 30, 135, 233, 206, 85, 40, 223, 140, 161, 137, 13, 191, 230, 66, 104, 65, 153, 45, 15, 176, 84, 187, 22]
theorem boxTab_length : boxTab.length = 256 := by decide +kernel
def box (b : UInt8) : UInt8 := nth boxTab (n8 b)
def row16 (f : Nat → UInt8) : List UInt8 := (List.range 16).map f
theorem row16_length (f) : (row16 f).length = 16 := by simp [row16]
theorem row16_get {f : Nat → UInt8} {i : Nat} (h : i < 16) : nth (row16 f) i = f i := by simp [nth, row16, h]
def addF (s k : List UInt8) (i : Nat) : UInt8 := nth s i ^^^ nth k i
def boxedF (s : List UInt8) (i : Nat) : UInt8 := box (nth s ((i + i % 4 * 4) % 16))
def mixedF (s : List UInt8) (i : Nat) : UInt8 :=
 double (nth s (i / 4 * 4 + i % 4)) ^^^ double (nth s (i / 4 * 4 + (i + 1) % 4)) ^^^ nth s (i / 4 * 4 + (i + 1) % 4) ^^^ nth s (i / 4 * 4 + (i + 2) % 4) ^^^ nth s (i / 4 * 4 + (i + 3) % 4)
def add (s k : List UInt8) := row16 (addF s k)
def boxed (s : List UInt8) := row16 (boxedF s)
def mixed (s : List UInt8) := row16 (mixedF s)
def nw (last : List UInt8) (r : UInt8) : Nat → Nat → UInt8
 | 0, i => if i = 0 then nth last 0 ^^^ box (nth last 13) ^^^ r else nth last i ^^^ box (nth last (12 + (i + 1) % 4))
 | q + 1, i => nth last (4 * (q + 1) + i) ^^^ nw last r q i
def nextRow (last : List UInt8) (r : UInt8) : List UInt8 := row16 fun i => nw last r (i / 4) (i % 4)
def rcon : Nat → UInt8
 | 0 => 1
 | n + 1 => double (rcon n)
def rowKey (key : List UInt8) : Nat → List UInt8
 | 0 => key
 | n + 1 => nextRow (rowKey key n) (rcon n)
def keyF (key : List UInt8) (p : Nat) : UInt8 := nth (rowKey key (p / 16)) (p % 16)
def keys (key : List UInt8) : List UInt8 := (List.range 176).map (keyF key)
def stateAt (key inp : List UInt8) : Nat → List UInt8
 | 0 => add inp (rowKey key 0)
 | n + 1 => add (mixed (boxed (stateAt key inp n))) (rowKey key (n + 1))
def block (key inp : List UInt8) : List UInt8 := add (boxed (stateAt key inp 9)) (rowKey key 10)
@[go_sem] theorem rowKey_length (key : List UInt8) (h : key.length = 16) : ∀ n, (rowKey key n).length = 16
 | 0 => h
 | _ + 1 => row16_length _
@[go_sem] theorem add_length (s k) : (add s k).length = 16 := row16_length _
@[go_sem] theorem boxed_length (s) : (boxed s).length = 16 := row16_length _
@[go_sem] theorem mixed_length (s) : (mixed s).length = 16 := row16_length _
@[go_sem] theorem stateAt_length (key inp) : ∀ n, (stateAt key inp n).length = 16
 | 0 => row16_length _
 | _ + 1 => row16_length _
@[go_sem] theorem block_length (key inp) : (block key inp).length = 16 := row16_length _
@[go_sem] theorem keys_length (key) : (keys key).length = 176 := by simp [keys]
theorem keys_part (key : List UInt8) (hk : key.length = 16) (n : Nat) (hn : n ≤ 10) : ((keys key).take (n * 16 + 16)).drop (n * 16) = rowKey key n := by
 rw [show n * 16 = 16 * n by omega]
 apply ext16 (n := 16) (by simp [keys]; omega) (rowKey_length key hk n)
 intro i hi
 have h1 : (16 * n + i) / 16 = n := by omega
 have h2 : (16 * n + i) % 16 = i := by omega
 unfold nth
 rw [List.getElem?_drop, List.getElem?_take, if_pos (by omega)]
 simp [keys, keyF, h1, h2, show 16 * n + i < 176 by omega, nth]
theorem upto_part (F : Nat → UInt8) (z : List UInt8) (m a : Nat) (ha : 16 * a + 16 ≤ m) (hm : m ≤ 176) (R : List UInt8) (hR : R.length = 16) (h : ∀ i, i < 16 → F (16 * a + i) = nth R i) :
  ((upto F z 176 m).take (16 * a + 16)).drop (16 * a) = R := by
 apply ext16 (n := 16) (by simp [upto_length]; omega) hR
 intro i hi
 have e := h i hi
 rw [← e, ← upto_lo (f := F) (z := z) (n := 176) (k := m) (by omega) (by omega)]
 unfold nth
 rw [List.getElem?_drop, List.getElem?_take, if_pos (by omega)]
theorem keyF_at (key : List UInt8) (a i : Nat) (hi : i < 16) : keyF key (16 * a + i) = nth (rowKey key a) i := by
 have h1 : (16 * a + i) / 16 = a := by omega
 have h2 : (16 * a + i) % 16 = i := by omega
 simp [keyF, h1, h2]
theorem keyF_lo (key : List UInt8) (n i : Nat) (hi : i < 4) (h0 : i ≠ 0) : keyF key (16 * (n + 1) + i) = nth (rowKey key n) i ^^^ box (nth (rowKey key n) (12 + (i + 1) % 4)) := by
 rw [keyF_at _ _ _ (by omega), rowKey, nextRow, row16_get (by omega), show i / 4 = 0 by omega, show i % 4 = i by omega, nw, if_neg h0]
theorem keyF_first (key : List UInt8) (n : Nat) : keyF key (16 * (n + 1)) = nth (rowKey key n) 0 ^^^ box (nth (rowKey key n) 13) ^^^ rcon n := by
 have := keyF_at key (n + 1) 0 (by omega)
 rw [Nat.add_zero] at this
 rw [this, rowKey, nextRow, row16_get (by omega)]; rfl
theorem keyF_hi (key : List UInt8) (n i : Nat) (h4 : 4 ≤ i) (hi : i < 16) : keyF key (16 * (n + 1) + i) = nth (rowKey key n) i ^^^ keyF key (16 * (n + 1) + (i - 4)) := by
 rw [keyF_at _ _ _ (by omega), keyF_at _ _ _ (by omega), rowKey, nextRow, row16_get (by omega), row16_get (by omega)]
 obtain ⟨q, hq⟩ : ∃ q, i / 4 = q + 1 := ⟨i / 4 - 1, by omega⟩
 rw [hq, show (i - 4) / 4 = q by omega, show (i - 4) % 4 = i % 4 by omega, nw, show 4 * (q + 1) + i % 4 = i by omega]
end Aes

end
section
namespace Go.Proofs.YthjbmggpleliaaaGreatDoor
open Go.RowKit Go.Rw Aes
set_option maxRecDepth 100000 in
theorem TB : SlT Tryz.prog 22 5 := ⟨Tryz.underlying22, rfl, by kernel_rfl⟩
theorem info8 : (Tryz.prog.info? 5).map (fun i => (i.zero, i.size, i.bytes)) = some (some (.int .u8 0), 1, 1) := by kernel_rfl
theorem bel2 (w : World) (a b : Obj) : Below w.heap.size w ((w.alloc a).alloc b) := ((Below.refl _ _).alloc (Nat.le_refl _) _).alloc (by simp) _
set_option maxRecDepth 100000 in
set_option maxHeartbeats 1000000 in
theorem over_any (l : List UInt8) (hl : l.length ≤ 1000000) (v : Value) (B : Nat) (w : World) (hBs : B ≤ w.heap.size) (hown : w.ownsRow B 5 1 v l.length (l.map bv)) :
  Calls Tryz.prog 12 #[v] w fun e w' => e = .returned (.tuple #[]) ∧ w.grownBy w' v.ownBlock := by
 obtain ⟨i0, hi, hz0, hz1, hz2⟩ := info_parts info8
 obtain ⟨ao, cap, hv, hc, hnn, hp⟩ := Own.sl hown
 go_enter Tryz.func12, Tryz.ntmps12
 subst hv
 go_wp2_with fail
 go_loopw [2] (fun v wr => ∃ (k : Nat) (l' : List UInt8), k ≤ l.length ∧ v = .int .i64 (k : Nat) ∧ l'.length = l.length ∧ wr.ownsRow B 5 1 (.slice ao l.length cap) l.length (l'.map bv) ∧ w.grownBy wr (Value.slice ao l.length cap).ownBlock) (fun v _ => l.length - (intOf v).toNat)
 case atStart => exact ⟨0, l, by omega, rfl, rfl, hown, World.grownBy.refl _ _⟩
 case round =>
  obtain ⟨k, l', hk, rfl, hl', how, hb⟩ := hrel
  by_cases hlt : k < l.length
  ·obtain ⟨g, off, rfl, hcell⟩ := hp (by omega)
   obtain rfl : off = 0 := by
    rcases hown.2 with ⟨h', _⟩ | ⟨g', cap', cur, h', _⟩
    ·cases h'
    ·simp at h'; exact h'.1.2
   have cO : wr.cell? ⟨g, k, none⟩ = some (.int .u8 (n8 (nth l' k) : Nat)) := by
    rw [how.cellAt k (by omega)]
    simp [nth, bv, n8, show k < l'.length by omega]
   have fO := how.frozenAt k
   have HO := Lib.hid (own_stored how k 238)
   have GR := Lib.hid (how.stored k (bv 238)).2
   have HO0 := Lib.hid how
   have HH := Lib.hid hown
   have HC := Lib.hid hcell
   clear how hown hcell
   go_wp2_with fail
   go_roundw
   case rel => exact ⟨k + 1, l'.set k 238, by omega, by go_num, by simp [hl'], HO.out, grown_trans hb GR.out⟩
   case measure => simp [intOf]; omega
  ·have zb := hb.size
   have HH := Lib.hid hown
   have HO := Lib.hid how
   clear hown how
   go_wp2_with (at_builtin; refine wpList_append_own _ rfl _ _ 22 rfl B 5 i0 (.int .u8 0) 1 1 Tryz.underlying22 hi hz0 hz1 hz2 rfl (by decide) _ l.length _ rfl (HO.out.alloc _) ⟨_, 0, none⟩ 1 1 [bv 238] rfl rfl ?c1 ?c2 ?c3 ?c4 ?c5 ?_)
   case c1 =>
    intro j u hj
    match j, hj with
    | 0, hj => simp at hj; subst hj; exact cell_new _ _ _ _ rfl
   case c2 => exact map_bv_one [238]
   case c3 => unfold maxLen; omega
   case c4 => omega
   case c5 => simp; omega
   intro v' w2 hown2 hgrow2 _
   have kb := grown_trans hb (grown_trans (grown_alloc wr (.cells #[.int .u8 238] 5) (Value.slice ao l.length cap).ownBlock) hgrow2)
   clear hown2 hgrow2
   go_wp2_with fail
   go_end0
   exact ⟨rfl, kb⟩
end Go.Proofs.YthjbmggpleliaaaGreatDoor

end
