/- LibW; GcmM; GcmW1; GcmW2; GcmW3; GcmW4; GcmW5; GcmW6; GcmW7; AesP; AesRM; AesRT. -/
import Derived.Test.YthjbmggpleliaaaGreatDoorMhb1
import Derived.Test.YthjbmggpleliaaaGreatDoorMhb3
import Derived.Test.YthjbmggpleliaaaGreatDoorMhb5
import Derived.RegionTactic
import Derived.BigRegion
import Derived.Test.YthjbmggpleliaaaGreatDoorMhb2
section
section
namespace Go.Rw
open Go Go.RowKit
def n64 (x : UInt64) : Nat := x.toNat
theorem n64_lt (x : UInt64) : n64 x < 18446744073709551616 := x.toNat_lt
theorem n64_inj {a b : UInt64} (h : n64 a = n64 b) : a = b := UInt64.toNat_inj.1 h
theorem n64_ofNat (n : Nat) (h : n < 18446744073709551616) : n64 (UInt64.ofNat n) = n := by
 simp only [n64, UInt64.toNat_ofNat']; omega
def wide (b : UInt8) : UInt64 := UInt64.ofNat (n8 b)
def low8 (x : UInt64) : UInt8 := UInt8.ofNat (n64 x % 256)
theorem n64_wide (b : UInt8) : n64 (wide b) = n8 b := n64_ofNat _ (by have := n8_lt b; omega)
theorem n8_low8 (x : UInt64) : n8 (low8 x) = n64 x % 256 := n8_ofNat _ (Nat.mod_lt _ (by decide))
theorem ofInt64 (n : Nat) (h : n < 18446744073709551616) : n64 (UInt64.ofInt (n : Int)) = n := by
 simp [UInt64.ofInt, n64]; omega
@[go_sem] theorem ofInt_n64 (x : UInt64) : UInt64.ofInt (n64 x : Int) = x := n64_inj (ofInt64 _ (n64_lt x))
@[go_sem] theorem ofInt64_n8 (b : UInt8) : UInt64.ofInt (n8 b : Int) = wide b := n64_inj (by rw [ofInt64 _ (by have := n8_lt b; omega), n64_wide])
@[go_sem] theorem ofInt64_lit (n : Nat) : UInt64.ofInt (no_index (OfNat.ofNat n : Int)) = UInt64.ofNat n := by
 apply UInt64.toNat_inj.1
 show (UInt64.ofInt (n : Int)).toNat = _
 simp [UInt64.ofInt]
 omega
theorem ofInt64_toBitVec (x : Int) : (UInt64.ofInt x).toBitVec = BitVec.ofInt 64 x := by
 apply BitVec.eq_of_toNat_eq
 simp [UInt64.ofInt]
 omega
theorem wrap64u_toNat (b : UInt64) : IntKind.u64.wrap (b.toBitVec.toNat : Int) = (n64 b : Int) := by
 have := b.toNat_lt
 simp only [IntKind.wrap, IntKind.signed, IntKind.bits, n64]
 show ((b.toNat : Int)) % _ = _
 simp; omega
@[go_sem] theorem bits_xor64 (x y : Int) : bits .xor .u64 x y = ((n64 (UInt64.ofInt x ^^^ UInt64.ofInt y) : Nat) : Int) := by
 rw [← wrap64u_toNat]; simp only [bits, UInt64.toBitVec_xor, ofInt64_toBitVec]; rfl
@[go_sem] theorem bits_and64 (x y : Int) : bits .and .u64 x y = ((n64 (UInt64.ofInt x &&& UInt64.ofInt y) : Nat) : Int) := by
 rw [← wrap64u_toNat]; simp only [bits, UInt64.toBitVec_and, ofInt64_toBitVec]; rfl
@[go_sem] theorem bits_or64 (x y : Int) : bits .or .u64 x y = ((n64 (UInt64.ofInt x ||| UInt64.ofInt y) : Nat) : Int) := by
 rw [← wrap64u_toNat]; simp only [bits, UInt64.toBitVec_or, ofInt64_toBitVec]; rfl
def shl64 (a : UInt64) (c : Nat) : UInt64 := UInt64.ofNat (n64 a * 2 ^ c)
def shr64 (a : UInt64) (c : Nat) : UInt64 := UInt64.ofNat (n64 a / 2 ^ c)
theorem n64_shl64 (a : UInt64) (c : Nat) : n64 (shl64 a c) = n64 a * 2 ^ c % 18446744073709551616 := by simp [n64, shl64]
theorem n64_shr64 (a : UInt64) (c : Nat) : n64 (shr64 a c) = n64 a / 2 ^ c := by
 have h : n64 a / 2 ^ c < 18446744073709551616 := Nat.lt_of_le_of_lt (Nat.div_le_self _ _) (n64_lt a)
 exact n64_ofNat _ h
theorem shift_shl64 (a : UInt64) (yk : IntKind) (y : Int) (h : 0 ≤ y) : Op.shift .shl .u64 (n64 a : Int) yk y = pure (.int .u64 (n64 (shl64 a y.toNat) : Nat)) := by
 unfold Op.shift
 rw [if_neg (by omega)]
 simp only [n64_shl64]
 congr 2
 have hw : ∀ x : Int, IntKind.u64.wrap x = x % 18446744073709551616 := fun x => by simp [IntKind.wrap, IntKind.signed, IntKind.bits]
 rw [hw]
 rcases Nat.lt_or_ge y.toNat 64 with h8 | h8
 ·rw [Nat.min_eq_left (by simp [IntKind.bits]; omega)]
  simp only [Int.natCast_emod, Int.natCast_mul, Int.natCast_pow, Int.cast_ofNat_Int]
 ·rw [Nat.min_eq_right (by simp [IntKind.bits]; omega)]
  obtain ⟨d, hd⟩ : ∃ d, y.toNat = 64 + d := ⟨y.toNat - 64, by omega⟩
  rw [hd, Nat.pow_add]
  simp only [IntKind.bits]
  have h1 : n64 a * (2 ^ 64 * 2 ^ d) % 18446744073709551616 = 0 := by
   rw [show n64 a * (2 ^ 64 * 2 ^ d) = 18446744073709551616 * (n64 a * 2 ^ d) by rw [Nat.mul_left_comm]]
   exact Nat.mul_mod_right _ _
  rw [h1]; omega
theorem shift_shr64 (a : UInt64) (yk : IntKind) (y : Int) (h : 0 ≤ y) : Op.shift .shr .u64 (n64 a : Int) yk y = pure (.int .u64 (n64 (shr64 a y.toNat) : Nat)) := by
 unfold Op.shift
 rw [if_neg (by omega)]
 simp only [n64_shr64]
 congr 2
 rw [Int.fdiv_eq_ediv_of_nonneg _ (Int.pow_nonneg (by decide))]
 rcases Nat.lt_or_ge y.toNat 64 with h8 | h8
 ·rw [Nat.min_eq_left (by simp [IntKind.bits]; omega)]
  simp only [Int.natCast_ediv, Int.natCast_pow, Int.cast_ofNat_Int]
 ·rw [Nat.min_eq_right (by simp [IntKind.bits]; omega)]
  have h1 : n64 a / 2 ^ y.toNat = 0 := Nat.div_eq_of_lt (Nat.lt_of_lt_of_le (n64_lt a) (Nat.pow_le_pow_right (n := 2) (by decide) h8))
  rw [h1]
  have := n64_lt a
  simp only [IntKind.bits]; omega
def shr32 (n c : Nat) : Nat := n / 2 ^ c
def byteOf (n c : Nat) : UInt8 := UInt8.ofNat (shr32 n c)
@[go_sem] theorem wrap8_byte (n c : Nat) : IntKind.u8.wrap ((shr32 n c : Nat) : Int) = (n8 (byteOf n c) : Nat) := by
 simp only [IntKind.wrap_u8, n8, byteOf, UInt8.toNat_ofNat']; rfl
theorem shift_shr32 (n : Nat) (hn : n < 4294967296) (yk : IntKind) (y : Int) (h : 0 ≤ y) : Op.shift .shr .u32 (n : Int) yk y = pure (.int .u32 (shr32 n y.toNat : Nat)) := by
 unfold Op.shift shr32
 rw [if_neg (by omega)]
 dsimp only
 congr 2
 rw [Int.fdiv_eq_ediv_of_nonneg _ (Int.pow_nonneg (by decide))]
 rcases Nat.lt_or_ge y.toNat 32 with h8 | h8
 ·rw [Nat.min_eq_left (by simp [IntKind.bits]; omega)]
  simp only [Int.natCast_ediv, Int.natCast_pow, Int.cast_ofNat_Int]
 ·rw [Nat.min_eq_right (by simp [IntKind.bits]; omega)]
  have h1 : n / 2 ^ y.toNat = 0 := Nat.div_eq_of_lt (Nat.lt_of_lt_of_le hn (Nat.pow_le_pow_right (n := 2) (by decide) h8))
  rw [h1]
  simp only [IntKind.bits]; omega
@[go_sem] theorem n64_ibeq_lit (a : UInt64) (n : Nat) (h : decide (n < 18446744073709551616) = true) : ((n64 a : Int) == (no_index (OfNat.ofNat n : Int))) = (a == UInt64.ofNat n) := by
 rw [Bool.eq_iff_iff]; simp only [beq_iff_eq]
 have hn : n < 18446744073709551616 := by simpa using h
 constructor
 ·intro e; apply n64_inj; rw [n64_ofNat n hn]; have e' : (n64 a : Int) = (n : Int) := e; omega
 ·intro e; rw [e, n64_ofNat n hn]; rfl
@[go_sem] theorem low8_mod (x : UInt64) : ((n64 x : Nat) : Int) % 256 = (n8 (low8 x) : Nat) := by rw [n8_low8]; rfl
@[go_sem] theorem wrap64_n8 (b : UInt8) : IntKind.u64.wrap (n8 b : Int) = (n64 (wide b) : Nat) := by
 have := n8_lt b
 rw [n64_wide]; simp only [IntKind.wrap, IntKind.signed, IntKind.bits]; simp; omega
@[go_sem] theorem wrap8_n64 (x : UInt64) : IntKind.u8.wrap (n64 x : Int) = (n8 (low8 x) : Nat) := by
 rw [n8_low8]; simp only [IntKind.wrap_u8]; rfl
@[go_sem] theorem wrap64_mul (a : UInt64) (n : Nat) : IntKind.u64.wrap ((n64 a : Int) * (no_index (OfNat.ofNat n : Int))) = (n64 (a * UInt64.ofNat n) : Nat) := by
 show IntKind.u64.wrap ((n64 a : Int) * (n : Int)) = _
 have e : n64 (a * UInt64.ofNat n) = n64 a * n % 18446744073709551616 := by simp [n64, UInt64.toNat_mul]
 rw [e]; simp only [IntKind.wrap, IntKind.signed, IntKind.bits]; simp
end Go.Rw

end
section
namespace Gcm
open Go.Rw Aes
abbrev Wd := UInt64 × UInt64
def wxor (a b : Wd) : Wd := (a.1 ^^^ b.1, a.2 ^^^ b.2)
def poly : UInt64 := UInt64.ofNat 16212958658533785600
def mulX (y : Wd) : Wd := (shr64 y.1 1 ^^^ (y.2 &&& 1) * poly, shr64 y.2 1 ||| shl64 y.1 63)
def bit (w : Wd) (i : Nat) : Bool := shr64 (if 64 ≤ i then w.2 else w.1) (63 - i % 64) &&& 1 == 1
def gstep (x : Wd) (i : Nat) (s : Wd × Wd) : Wd × Wd := (if bit x i then wxor s.1 s.2 else s.1, mulX s.2)
def grun (x y : Wd) : Nat → Wd × Wd
 | 0 => ((0, 0), y)
 | n + 1 => gstep x n (grun x y n)
def timesW (x y : Wd) : Wd := (grun x y 128).1
def ofN (b : List UInt8) : Nat → Wd
 | 0 => (0, 0)
 | k + 1 => (shl64 (ofN b k).1 8 ||| wide (nth b k), shl64 (ofN b k).2 8 ||| wide (nth b (8 + k)))
def wof (b : List UInt8) : Wd := ofN b 8
def blkF (w : Wd) (i : Nat) : UInt8 := if i < 8 then low8 (shr64 w.1 (56 - 8 * i)) else low8 (shr64 w.2 (56 - 8 * (i - 8)))
def blk (w : Wd) : List UInt8 := row16 (blkF w)
def blkUptoF (w : Wd) (k i : Nat) : UInt8 := if i % 8 < k then blkF w i else 0
def blkUpto (w : Wd) (k : Nat) : List UInt8 := row16 (blkUptoF w k)
theorem blkUpto_get {w : Wd} {k i : Nat} (h : i < 16) : nth (blkUpto w k) i = if i % 8 < k then blkF w i else 0 := row16_get h
theorem blk_get {w : Wd} {i : Nat} (h : i < 16) : nth (blk w) i = blkF w i := row16_get h
@[go_sem] theorem blk_length (w) : (blk w).length = 16 := row16_length _
@[go_sem] theorem blkUpto_length (w k) : (blkUpto w k).length = 16 := row16_length _
theorem blkUpto_zero (w) : blkUpto w 0 = zeros 16 := by
 apply ext16 (n := 16) (blkUpto_length _ _) (zeros_length _)
 intro i hi
 rw [blkUpto_get hi, nth_zeros]; simp
theorem blkUpto_full (w) : blkUpto w 8 = blk w := by
 apply ext16 (n := 16) (blkUpto_length _ _) (blk_length _)
 intro i hi
 rw [blkUpto_get hi, blk_get hi, if_pos (Nat.mod_lt _ (by decide))]
theorem blkUpto_set (w) (k : Nat) (h : k < 8) : ((blkUpto w k).set k (low8 (shr64 w.1 (56 - 8 * k)))).set (8 + k) (low8 (shr64 w.2 (56 - 8 * k))) = blkUpto w (k + 1) := by
 apply ext16 (n := 16) (by simp [blkUpto_length]) (blkUpto_length _ _)
 intro i hi
 rw [set_get _ _ _ _ (by simp [blkUpto_length]; omega), set_get _ _ _ _ (by simp [blkUpto_length]; omega), blkUpto_get hi, blkUpto_get hi]
 by_cases h1 : 8 + k = i
 ·subst h1
  rw [if_pos rfl, if_pos (by omega), blkF, if_neg (by omega)]
  simp
 ·rw [if_neg h1]
  by_cases h2 : k = i
  ·subst h2
   rw [if_pos rfl, if_pos (by omega), blkF, if_pos h]
  ·rw [if_neg h2]
   by_cases h3 : i % 8 < k
   ·rw [if_pos h3, if_pos (by omega)]
   ·rw [if_neg h3, if_neg (by omega)]
def times (x y : List UInt8) : List UInt8 := blk (timesW (wof x) (wof y))
@[go_sem] theorem times_length (x y) : (times x y).length = 16 := row16_length _
def padAt (p : List UInt8) (k : Nat) : List UInt8 := row16 fun j => nth p (16 * k + j)
@[go_sem] theorem padAt_length (p k) : (padAt p k).length = 16 := row16_length _
def hashK (key y : Wd) (p : List UInt8) : Nat → Wd
 | 0 => y
 | k + 1 => timesW (wxor (hashK key y p k) (wof (padAt p k))) key
def hashPart (key y : Wd) (p : List UInt8) : Wd := hashK key y p ((p.length + 15) / 16)
def hashParts (key : Wd) (ps : List (List UInt8)) : Wd := ps.foldl (hashPart key) (0, 0)
def hash (h : List UInt8) (ps : List (List UInt8)) : List UInt8 := blk (hashParts (wof h) ps)
@[go_sem] theorem hash_length (h ps) : (hash h ps).length = 16 := row16_length _
theorem padAt_get {p : List UInt8} {k j : Nat} (h : j < 16) : nth (padAt p k) j = nth p (16 * k + j) := row16_get h
theorem nth_drop (p : List UInt8) (a j : Nat) : nth (p.drop a) j = nth p (a + j) := by simp [nth]
theorem padAt_drop (p : List UInt8) (k : Nat) : padAt p (k + 1) = padAt (p.drop 16) k := by
 apply ext16 (n := 16) (padAt_length _ _) (padAt_length _ _)
 intro j hj
 rw [padAt_get hj, padAt_get hj, nth_drop]; congr 1; omega
theorem hashK_shift (key y : Wd) (p : List UInt8) : ∀ k, hashK key y p (k + 1) = hashK key (timesW (wxor y (wof (padAt p 0))) key) (p.drop 16) k
 | 0 => rfl
 | k + 1 => by rw [hashK, hashK_shift key y p k, padAt_drop]; rfl
theorem hashPart_step (key y : Wd) (p : List UInt8) (h : 0 < p.length) : hashPart key y p = hashPart key (timesW (wxor y (wof (padAt p 0))) key) (p.drop 16) := by
 unfold hashPart
 rw [show (p.length + 15) / 16 = ((p.drop 16).length + 15) / 16 + 1 by rw [List.length_drop]; omega, hashK_shift]
theorem pad_copy (q : List UInt8) : q.take 16 ++ (zeros 16).drop q.length = padAt q 0 := by
 have hz : ((zeros 16).drop q.length).length = 16 - q.length := by simp [zeros]
 apply ext16 (n := 16) (by rw [List.length_append, hz, List.length_take]; omega) (padAt_length _ _)
 intro j hj
 rw [padAt_get hj, nth_append]
 split
 ·rename_i h
  rw [List.length_take] at h
  simp only [nth, List.getElem?_take, Nat.mul_zero, Nat.zero_add]
  rw [if_pos hj]
 ·rename_i h
  rw [List.length_take] at h
  rw [zeros_drop, nth_zeros]
  simp only [nth, Nat.mul_zero, Nat.zero_add]
  rw [List.getElem?_eq_none (by omega)]; rfl
theorem hashParts_step (key : Wd) (ps : List (List UInt8)) (k : Nat) (h : k < ps.length) : hashParts key (ps.take (k + 1)) = hashPart key (hashParts key (ps.take k)) (ps.getD k []) := by
 unfold hashParts
 rw [List.take_add_one, List.foldl_append]
 simp [h]
def ctrF (nonce : List UInt8) (n i : Nat) : UInt8 := if i < 12 then nth nonce i else byteOf n (24 - 8 * (i - 12))
def ctr (nonce : List UInt8) (n : Nat) : List UInt8 := row16 (ctrF nonce n)
@[go_sem] theorem ctr_length (nonce n) : (ctr nonce n).length = 16 := row16_length _
def ks (key nonce : List UInt8) (i : Nat) : UInt8 := nth (block key (ctr nonce (i / 16 + 2))) (i % 16)
def encF (key nonce text : List UInt8) (i : Nat) : UInt8 := nth text i ^^^ ks key nonce i
def enc (key nonce text : List UInt8) : List UInt8 := (List.range text.length).map (encF key nonce text)
@[go_sem] theorem enc_length (key nonce text) : (enc key nonce text).length = text.length := by simp [enc]
def word (n : Nat) : UInt64 := UInt64.ofNat (8 * n)
def longs (a b : Nat) : List UInt8 := blk (word a, word b)
def tag (key nonce sealed data : List UInt8) : List UInt8 := add (hash (block key (zeros 16)) [data, sealed, longs data.length sealed.length]) (block key (ctr nonce 1))
@[go_sem] theorem tag_length (key nonce sealed data) : (tag key nonce sealed data).length = 16 := row16_length _
def sealed (key nonce text data : List UInt8) : List UInt8 := enc key nonce text ++ tag key nonce (enc key nonce text) data
@[go_sem] theorem sealed_length (key nonce text data) : (sealed key nonce text data).length = text.length + 16 := by simp [sealed, enc_length, tag_length]
theorem ctr_upto (nonce : List UInt8) (n k : Nat) (h : k < 4) : (upto (ctrF nonce n) (nonce ++ zeros 4) 16 (12 + k)).set (12 + k) (byteOf n (24 - 8 * k)) = upto (ctrF nonce n) (nonce ++ zeros 4) 16 (12 + (k + 1)) := by
 have := upto_set (ctrF nonce n) (nonce ++ zeros 4) 16 (12 + k) (by omega)
 rw [← Nat.add_assoc, ← this, ctrF, if_neg (by omega), show 12 + k - 12 = k by omega]
theorem ctr_zero (nonce : List UInt8) (n : Nat) (hn : nonce.length = 12) : upto (ctrF nonce n) (nonce ++ zeros 4) 16 12 = nonce ++ zeros 4 := by
 apply ext16 (n := 16) (upto_length ..) (by simp [hn, zeros])
 intro i hi
 rw [upto_get hi]
 split
 ·rename_i h; rw [ctrF, if_pos h, nth_append, if_pos (by omega)]
 ·rfl
theorem ctr_full (nonce : List UInt8) (n : Nat) : upto (ctrF nonce n) (nonce ++ zeros 4) 16 16 = ctr nonce n := upto_full ..
theorem encF_at (key nonce text : List UInt8) (i : Nat) : encF key nonce text i = nth text i ^^^ nth (block key (ctr nonce (i / 16 + 2))) (i % 16) := rfl
def encTo (key nonce text : List UInt8) (k : Nat) : List UInt8 := (List.range k).map (encF key nonce text)
theorem encTo_succ (key nonce text : List UInt8) (k : Nat) : encTo key nonce text (k + 1) = encTo key nonce text k ++ [encF key nonce text k] := by simp [encTo, List.range_succ]
theorem encTo_full (key nonce text) : encTo key nonce text text.length = enc key nonce text := rfl
end Gcm

end
section
namespace Go.Proofs.YthjbmggpleliaaaGreatDoor
open Go.RowKit Go.Rw Aes Gcm
def wv (x : Wd) : Array Value := #[.int .u64 (n64 x.1 : Nat), .int .u64 (n64 x.2 : Nat)]
@[go_sem] theorem wv_size (x : Wd) : (wv x).size = 2 := by simp [wv]
@[go_sem] theorem wv_all (x : Wd) : allOne (wv x) = true := by simp [allOne, wv, Value.oneCell']
theorem AgW : Agg Tryz.prog 283 2 := ⟨⟨_, Tryz.underlying283, rfl⟩, by kernel_rfl⟩
theorem ldW (x : Value) : Instr.loadAt 283 x = loadAgg 283 x := rfl
theorem stW (x y : Value) : Instr.storeAt 283 x y = storeAgg 283 x y := rfl
theorem alW : Instr.alloc 283 true (.tuple #[]) = allocAgg 283 := rfl
theorem rldW (w : World) (b : Nat) (h : (row? w b).map (·.size) = some 2) : (loadAgg 283 (.pointer (some ⟨b, 0, none⟩))).run Tryz.prog w = .ok (.agg ((row? w b).getD #[])) w := load_rule AgW w b h
theorem rstW (w : World) (b : Nat) (c' : Array Value) (h : (row? w b).map (·.size) = some 2) (hn : c'.size = 2) (h1 : allOne c' = true) : (storeAgg 283 (.pointer (some ⟨b, 0, none⟩)) (.agg c')).run Tryz.prog w = .ok () (w.setRow b c') := store_rule AgW w b c' h hn h1
theorem ralW (w : World) : (allocAgg 283).run Tryz.prog w = .ok (.pointer (some ⟨w.heap.size, 0, none⟩)) (w.alloc (.cells (wv (0, 0)) 283)) := alloc_rule (n := 2) (by kernel_rfl) w
theorem wv_0 (x : Wd) : (wv x)[0]? = some (.int .u64 (n64 x.1 : Nat)) := rfl
theorem wv_1 (x : Wd) : (wv x)[1]? = some (.int .u64 (n64 x.2 : Nat)) := rfl
theorem wv_set0 (x : Wd) (a : UInt64) : (wv x).setIfInBounds 0 (.int .u64 (n64 a : Nat)) = wv (a, x.2) := rfl
theorem wv_set1 (x : Wd) (a : UInt64) : (wv x).setIfInBounds 1 (.int .u64 (n64 a : Nat)) = wv (x.1, a) := rfl
theorem retW {fn : Func} {p : Tmp} {R : Ending → World → Prop} {a : Act} {w : World} (b : Nat) (c : Array Value) (hr : fn.results = #[.cell p 283]) (hp : a.tmps.getD p undef = .pointer (some ⟨b, 0, none⟩)) (hd : a.defers = [])
  (h : row? w b = some c) (hn : c.size = 2) (hR : R (.returned (.agg c)) w) : bodyPost Tryz.prog fn R .ret a w :=
 bodyPost_ret (results_row AgW hr _ _ b c hp h hn) hd hR
attribute [local go_sem ↓] ld16 st16 al16 ldW stW alW shift_shl8 shift_shr8 shift_shl64 shift_shr64 bvs_getElem? wv_0 wv_1
attribute [local go_sem] rld16 rst16 ral16 rldW rstW ralW setRow_alloc_at setRow_alloc_past setRow_drew bvs_setn wv_set0 wv_set1
set_option maxRecDepth 100000 in
set_option maxHeartbeats 400000 in
theorem of_any (b : List UInt8) (hb : b.length = 16) (w : World) :
  Calls Tryz.prog 199 #[.agg (bvs b)] w fun e w' => e = .returned (.agg (wv (wof b))) ∧ Below w.heap.size w w' := by
 go_enter Tryz.func199, Tryz.ntmps199
 go_wp2_with fail
 go_loopw [4] (fun v wr => ∃ k : Nat, k ≤ 8 ∧ v = .int .i64 k ∧ row? wr w.heap.size = some (bvs b) ∧ row? wr (w.heap.size + 1) = some (wv (ofN b k)) ∧ Below w.heap.size w wr) (fun v _ => 8 - (intOf v).toNat)
 case atStart => exact ⟨0, by omega, rfl, by simp [go_sem], by simp [go_sem]; rfl, bel2a _ _ _⟩
 case round =>
  obtain ⟨k, hk, rfl, h0, h1, hbl⟩ := hrel
  by_cases hlt : k < 8
  ·have H0 := Lib.hid h0
   have H1 := Lib.hid h1
   have c0 := row?_cell h0
   have c1 := row?_cell h1
   have f1 := row?_frozen h1
   clear h0 h1
   go_wp2_with fail
   go_region
   all_goals (go_wp2_with fail)
   go_roundw
   case rel =>
    refine ⟨k + 1, by omega, by go_num, ?_, ?_, ((hbl.setCell (by simp) _).setCell (by simp) _).drew⟩
    ·rw [row?_drew, row?_setCell_ne _ _ _ _ (by simp), row?_setCell_ne _ _ _ _ (by simp)]; exact H0.out
    ·rw [row?_drew, row?_setCell_eq (row?_setCell_eq H1.out _), wv_set0, wv_set1]; rfl
   case measure => simp [intOf]; omega
  ·go_wp2_with fail
   obtain rfl : k = 8 := by omega
   exact retW (w.heap.size + 1) (wv (wof b)) rfl rfl rfl (row?_setRow_eq h1) (wv_size _) ⟨rfl, below_setRow hbl (by omega) _⟩
set_option maxRecDepth 100000 in
set_option maxHeartbeats 400000 in
theorem blk_any (x : Wd) (w : World) :
  Calls Tryz.prog 174 #[.agg (wv x)] w fun e w' => e = .returned (.agg (bvs (blk x))) ∧ Below w.heap.size w w' := by
 go_enter Tryz.func174, Tryz.ntmps174
 go_wp2_with fail
 go_loopw [4] (fun v wr => ∃ k : Nat, k ≤ 8 ∧ v = .int .i64 k ∧ row? wr w.heap.size = some (wv x) ∧ row? wr (w.heap.size + 1) = some (bvs (blkUpto x k)) ∧ Below w.heap.size w wr) (fun v _ => 8 - (intOf v).toNat)
 case atStart => exact ⟨0, by omega, rfl, by simp [go_sem], by rw [blkUpto_zero]; simp [go_sem], bel2a _ _ _⟩
 case round =>
  obtain ⟨k, hk, rfl, h0, h1, hbl⟩ := hrel
  by_cases hlt : k < 8
  ·have H0 := Lib.hid h0
   have H1 := Lib.hid h1
   have c0 := row?_cell h0
   have c1 := row?_cell h1
   have f1 := row?_frozen h1
   have s0 : (8 : Int) * (k : Int) ≤ 56 := by omega
   have s1 : ((56 : Int) - 8 * (k : Int)).toNat = 56 - 8 * k := by omega
   clear h0 h1
   go_wp2_with fail
   go_region
   all_goals (go_wp2_with fail)
   go_roundw
   case rel =>
    refine ⟨k + 1, by omega, by go_num, ?_, ?_, ((hbl.setCell (by simp) _).setCell (by simp) _).drew⟩
    ·rw [row?_drew, row?_setCell_ne _ _ _ _ (by simp), row?_setCell_ne _ _ _ _ (by simp)]; exact H0.out
    ·rw [row?_drew, row?_setCell_eq (row?_setCell_eq H1.out _), bvs_setn, bvs_setn, ← blkUpto_set x k hlt]
   case measure => simp [intOf]; omega
  ·go_wp2_with fail
   obtain rfl : k = 8 := by omega
   rw [blkUpto_full] at h1
   exact ret16 (w.heap.size + 1) (bvs (blk x)) rfl rfl rfl (row?_setRow_eq h1) (by rw [bvs_size]; exact blk_length _) ⟨rfl, below_setRow hbl (by omega) _⟩
theorem bel3a (w : World) (a b c : Obj) : Below w.heap.size w (((w.alloc a).alloc b).alloc c) := (bel2a w a b).alloc (by simp; omega) _
end Go.Proofs.YthjbmggpleliaaaGreatDoor

end
section
namespace Go.Proofs.YthjbmggpleliaaaGreatDoor
open Go.RowKit Go.Rw Aes Gcm
attribute [local go_sem ↓] ld16 st16 al16 ldW stW alW shift_shl8 shift_shr8 shift_shl64 shift_shr64 bvs_getElem? wv_0 wv_1
attribute [local go_sem] rld16 rst16 ral16 rldW rstW ralW setRow_alloc_at setRow_alloc_past setRow_drew bvs_setn wv_set0 wv_set1
set_option maxRecDepth 100000 in
set_option maxHeartbeats 1000000 in
set_option maxRecDepth 100000 in
theorem timesw_any (x y : Wd) (w : World) :
  Calls Tryz.prog 200 #[.agg (wv x), .agg (wv y)] w fun e w' => e = .returned (.agg (wv (timesW x y))) ∧ Below w.heap.size w w' := by
 go_enter Tryz.func200, Tryz.ntmps200
 go_wp2_with fail
 go_loopw [8] (fun v wr => ∃ k : Nat, k ≤ 128 ∧ v = .int .i64 k ∧ row? wr w.heap.size = some (wv x) ∧ row? wr (w.heap.size + 1) = some (wv (grun x y k).2) ∧ row? wr (w.heap.size + 2) = some (wv (grun x y k).1) ∧ Below w.heap.size w wr) (fun v _ => 128 - (intOf v).toNat)
 case atStart => exact ⟨0, by omega, rfl, by simp [go_sem], by simp [go_sem]; rfl, by simp [go_sem]; rfl, bel3a _ _ _ _⟩
 case round =>
  obtain ⟨k, hk, rfl, h0, h1, h2, hbl⟩ := hrel
  by_cases hlt : k < 128
  ·have E := Lib.hid (show grun x y (k + 1) = gstep x k (grun x y k) from rfl)
   generalize grun x y k = s at *
   obtain ⟨z, v⟩ := s
   dsimp only at h1 h2
   have H0 := Lib.hid h0
   have H1 := Lib.hid h1
   have H2 := Lib.hid h2
   have c0 := row?_cell h0
   have c1 := row?_cell h1
   have c2 := row?_cell h2
   have f1 := row?_frozen h1
   have f2 := row?_frozen h2
   have s0 : (k : Int) % 64 ≤ 63 := by omega
   have s1 : ((63 : Int) - (k : Int) % 64).toNat = 63 - k % 64 := by omega
   clear h0 h1 h2
   by_cases h64 : 64 ≤ k
   ·cases hb : (shr64 x.2 (63 - k % 64) &&& 1 == 1)
    ·have E2 := Lib.hid (show grun x y (k + 1) = (z, mulX v) by rw [E.out]; unfold gstep bit; rw [if_pos h64, hb]; rfl)
     clear E
     go_wp2_with fail
     go_roundw
     case rel =>
      refine ⟨k + 1, by omega, by go_num, ?_, ?_, ?_, ((hbl.setCell (by simp) _).setCell (by simp) _).setCell (by simp) _⟩
      ·rw [row?_setCell_ne _ _ _ _ (by simp <;> omega), row?_setCell_ne _ _ _ _ (by simp <;> omega), row?_setCell_ne _ _ _ _ (by simp <;> omega)]; exact H0.out
      ·rw [row?_setCell_eq (row?_setCell_eq (row?_setCell_eq H1.out _) _), wv_set0, wv_set1, wv_set0, E2.out]; rfl
      ·rw [row?_setCell_ne _ _ _ _ (by simp <;> omega), row?_setCell_ne _ _ _ _ (by simp <;> omega), row?_setCell_ne _ _ _ _ (by simp <;> omega), E2.out]; exact H2.out
     case measure => simp [intOf]; omega
    ·have E2 := Lib.hid (show grun x y (k + 1) = (wxor z v, mulX v) by rw [E.out]; unfold gstep bit; rw [if_pos h64, hb]; rfl)
     clear E
     go_wp2_with fail
     go_region
     all_goals (go_wp2_with fail)
     go_roundw
     case rel =>
      refine ⟨k + 1, by omega, by go_num, ?_, ?_, ?_, (((((hbl.setCell (by simp; omega) _).setCell (by simp; omega) _).setCell (by simp) _).setCell (by simp) _).setCell (by simp) _).drew⟩
      ·rw [row?_drew, row?_setCell_ne _ _ _ _ (by simp <;> omega), row?_setCell_ne _ _ _ _ (by simp <;> omega), row?_setCell_ne _ _ _ _ (by simp <;> omega), row?_setCell_ne _ _ _ _ (by simp <;> omega), row?_setCell_ne _ _ _ _ (by simp <;> omega)]; exact H0.out
      ·rw [row?_drew, row?_setCell_eq (row?_setCell_eq (row?_setCell_eq (by rw [row?_setCell_ne _ _ _ _ (by simp <;> omega), row?_setCell_ne _ _ _ _ (by simp <;> omega)]; exact H1.out) _) _), wv_set0, wv_set1, wv_set0, E2.out]; rfl
      ·rw [row?_drew, row?_setCell_ne _ _ _ _ (by simp <;> omega), row?_setCell_ne _ _ _ _ (by simp <;> omega), row?_setCell_ne _ _ _ _ (by simp <;> omega), row?_setCell_eq (row?_setCell_eq H2.out _), wv_set0, wv_set1, E2.out]; rfl
     case measure => simp [intOf]; omega
   ·cases hb : (shr64 x.1 (63 - k % 64) &&& 1 == 1)
    ·have E2 := Lib.hid (show grun x y (k + 1) = (z, mulX v) by rw [E.out]; unfold gstep bit; rw [if_neg h64, hb]; rfl)
     clear E
     go_wp2_with fail
     go_roundw
     case rel =>
      refine ⟨k + 1, by omega, by go_num, ?_, ?_, ?_, ((hbl.setCell (by simp) _).setCell (by simp) _).setCell (by simp) _⟩
      ·rw [row?_setCell_ne _ _ _ _ (by simp <;> omega), row?_setCell_ne _ _ _ _ (by simp <;> omega), row?_setCell_ne _ _ _ _ (by simp <;> omega)]; exact H0.out
      ·rw [row?_setCell_eq (row?_setCell_eq (row?_setCell_eq H1.out _) _), wv_set0, wv_set1, wv_set0, E2.out]; rfl
      ·rw [row?_setCell_ne _ _ _ _ (by simp <;> omega), row?_setCell_ne _ _ _ _ (by simp <;> omega), row?_setCell_ne _ _ _ _ (by simp <;> omega), E2.out]; exact H2.out
     case measure => simp [intOf]; omega
    ·have E2 := Lib.hid (show grun x y (k + 1) = (wxor z v, mulX v) by rw [E.out]; unfold gstep bit; rw [if_neg h64, hb]; rfl)
     clear E
     go_wp2_with fail
     go_region
     all_goals (go_wp2_with fail)
     go_roundw
     case rel =>
      refine ⟨k + 1, by omega, by go_num, ?_, ?_, ?_, (((((hbl.setCell (by simp; omega) _).setCell (by simp; omega) _).setCell (by simp) _).setCell (by simp) _).setCell (by simp) _).drew⟩
      ·rw [row?_drew, row?_setCell_ne _ _ _ _ (by simp <;> omega), row?_setCell_ne _ _ _ _ (by simp <;> omega), row?_setCell_ne _ _ _ _ (by simp <;> omega), row?_setCell_ne _ _ _ _ (by simp <;> omega), row?_setCell_ne _ _ _ _ (by simp <;> omega)]; exact H0.out
      ·rw [row?_drew, row?_setCell_eq (row?_setCell_eq (row?_setCell_eq (by rw [row?_setCell_ne _ _ _ _ (by simp <;> omega), row?_setCell_ne _ _ _ _ (by simp <;> omega)]; exact H1.out) _) _), wv_set0, wv_set1, wv_set0, E2.out]; rfl
      ·rw [row?_drew, row?_setCell_ne _ _ _ _ (by simp <;> omega), row?_setCell_ne _ _ _ _ (by simp <;> omega), row?_setCell_ne _ _ _ _ (by simp <;> omega), row?_setCell_eq (row?_setCell_eq H2.out _), wv_set0, wv_set1, E2.out]; rfl
     case measure => simp [intOf]; omega
  ·go_wp2_with fail
   obtain rfl : k = 128 := by omega
   exact retW (w.heap.size + 2) (wv (timesW x y)) rfl rfl rfl (row?_setRow_eq h2) (wv_size _) ⟨rfl, below_setRow hbl (by omega) _⟩
end Go.Proofs.YthjbmggpleliaaaGreatDoor

end
section
namespace Go.Proofs.YthjbmggpleliaaaGreatDoor
open Go.RowKit Go.Rw Aes Gcm
theorem Ag12 : Agg Tryz.prog 67 12 := ⟨⟨_, Tryz.underlying67, rfl⟩, by kernel_rfl⟩
theorem ld12 (x : Value) : Instr.loadAt 67 x = loadAgg 67 x := rfl
theorem rld12 (w : World) (b : Nat) (h : (row? w b).map (·.size) = some 12) : (loadAgg 67 (.pointer (some ⟨b, 0, none⟩))).run Tryz.prog w = .ok (.agg ((row? w b).getD #[])) w := load_rule Ag12 w b h
set_option maxRecDepth 100000 in
theorem TBg : SlT Tryz.prog 22 5 := ⟨Tryz.underlying22, rfl, by kernel_rfl⟩
theorem info8g : (Tryz.prog.info? 5).map (fun i => (i.zero, i.size, i.bytes)) = some (some (.int .u8 0), 1, 1) := by kernel_rfl
attribute [local go_sem ↓] ld12 ld16 st16 al16 ldW stW alW shift_shl8 shift_shr8 shift_shl64 shift_shr64 shift_shr32 bvs_getElem? wv_0 wv_1
attribute [local go_sem] rld12 rld16 rst16 ral16 rldW rstW ralW setRow_alloc_at setRow_alloc_past setRow_drew bvs_setn wv_set0 wv_set1
set_option maxRecDepth 100000 in
set_option maxHeartbeats 400000 in
theorem counter_any (nonce : List UInt8) (n : Nat) (hn : nonce.length = 12) (h32 : n < 4294967296) (w : World) :
  Calls Tryz.prog 173 #[.agg (bvs nonce), .int .u32 (n : Nat)] w fun e w' => e = .returned (.agg (bvs (ctr nonce n))) ∧ Below w.heap.size w w' := by
 go_enter Tryz.func173, Tryz.ntmps173
 go_wp2_with fail
 have hcopy : (Builtin.copy_ #[22, 22] 3 #[.slice (some ⟨w.heap.size + 1, 0, none⟩) 16 16, .slice (some ⟨w.heap.size, 0, none⟩) 12 12]).run Tryz.prog ((w.alloc (.cells (bvs nonce) 67)).alloc (.cells (bvs (zeros 16)) 66)).drew
   = .ok (.int .i64 12) ((w.alloc (.cells (bvs nonce) 67)).alloc (.cells (bvs (nonce ++ zeros 4)) 66)).drew := by
  have h0 : row? ((w.alloc (.cells (bvs nonce) 67)).alloc (.cells (bvs (zeros 16)) 66)).drew w.heap.size = some (bvs nonce) := by simp [go_sem]
  have h1 : row? ((w.alloc (.cells (bvs nonce) 67)).alloc (.cells (bvs (zeros 16)) 66)).drew (w.heap.size + 1) = some (bvs (zeros 16)) := by simp [go_sem]
  have hs := Sl.row h0
  rw [hn] at hs
  rw [run_copy_sl (elem := 5) Tryz.underlying22 (by kernel_rfl) 16 16 h1 (zeros_length _) hs, hn]
  congr 1
  have e : nonce.take 16 ++ (zeros 16).drop 12 = nonce ++ zeros 4 := by rw [List.take_of_length_le (by omega), zeros_drop]
  rw [e]
  simp [setRow_drew, setRow_alloc_at]
 refine Rg.wp_region_plan (Rg.row [(0, 3), (1, 3)] [2]) [2] (by kernel_rfl) (by kernel_rfl) ?_
 simp only [Rg.row, Rg.PT.map, List.map_cons, List.map_nil, List.getD_cons_zero, List.getD_cons_succ]
 go_wp2_with (first
  |(with_reducible refine Rg.plan_pure ?_ ?_ ?_); kernel_rfl; kernel_rfl; intro _ _|(with_reducible refine Rg.plan_take ?_ ?_ ?_); kernel_rfl; kernel_rfl; intro _ _|(with_reducible refine Rg.plan_keep ?_ ?_); kernel_rfl; intro K hK|refine hK _ _ (Rg.Keep.refl _) ?_; clear hK|refine hK _ _ (Rg.Keep.of_below (by assumption)) ?_; clear hK|(with_reducible refine Rg.plan_skip ?_ ?_); kernel_rfl|(with_reducible refine Rg.plan_done ?_)|(with_reducible refine Rg.calm_normal ?_))
 go_loopw [9] (fun v wr => ∃ k : Nat, k ≤ 4 ∧ v = .int .i64 k ∧ row? wr (w.heap.size + 1) = some (bvs (upto (ctrF nonce n) (nonce ++ zeros 4) 16 (12 + k))) ∧ Below w.heap.size w wr) (fun v _ => 4 - (intOf v).toNat)
 case atStart => exact ⟨0, by omega, rfl, by rw [ctr_zero _ _ hn]; simp [go_sem], (bel2a _ _ _).drew⟩
 case round =>
  obtain ⟨k, hk, rfl, h1, hbl⟩ := hrel
  by_cases hlt : k < 4
  ·have H1 := Lib.hid h1
   have c1 := row?_cell h1
   have f1 := row?_frozen h1
   have s0 : (8 : Int) * (k : Int) ≤ 24 := by omega
   have s1 : ((24 : Int) - 8 * (k : Int)).toNat = 24 - 8 * k := by omega
   clear h1 hcopy
   go_wp2_with fail
   go_roundw
   case rel =>
    refine ⟨k + 1, by omega, by go_num, ?_, hbl.setCell (by simp) _⟩
    rw [row?_setCell_eq H1.out, bvs_setn, ctr_upto _ _ _ hlt]
   case measure => simp [intOf]; omega
  ·clear hcopy
   go_wp2_with fail
   obtain rfl : k = 4 := by omega
   rw [ctr_full] at h1
   exact ret16 (w.heap.size + 1) (bvs (ctr nonce n)) rfl rfl rfl (row?_setRow_eq h1) (by rw [bvs_size]; exact ctr_length _ _) ⟨rfl, below_setRow hbl (by omega) _⟩
end Go.Proofs.YthjbmggpleliaaaGreatDoor

end
section
namespace Go.Proofs.YthjbmggpleliaaaGreatDoor
open Go.RowKit Go.Rw Aes Gcm
attribute [local go_sem ↓] ld12 ld16 st16 al16 ldW stW alW shift_shl8 shift_shr8 shift_shl64 shift_shr64 shift_shr32 bvs_getElem? wv_0 wv_1
attribute [local go_sem] rld12 rld16 rst16 ral16 rldW rstW ralW setRow_alloc_at setRow_alloc_past setRow_drew bvs_setn wv_set0 wv_set1
set_option maxRecDepth 100000 in
set_option maxHeartbeats 1000000 in
theorem hash_any (h : List UInt8) (hh : h.length = 16) (ps : List (List UInt8)) (hps : ps.length ≤ 1000000) (v : Value) (w : World) (hP : Pts w v ps) :
  Calls Tryz.prog 175 #[.agg (bvs h), v] w fun e w' => e = .returned (.agg (bvs (hash h ps))) ∧ Below w.heap.size w w' := by
 obtain ⟨ao, cap, rfl, hp⟩ := hP
 go_enter Tryz.func175, Tryz.ntmps175
 go_wp2_with fail
 refine (of_any h hh _).mono ?_
 rintro e w1 ⟨rfl, hb1⟩
 have z1 := hb1.size
 simp at z1
 have r1 : row? w1 (w.heap.size + 1) = some (bvs (zeros 16)) := by rw [row?_below hb1 (by simp)]; simp [go_sem]
 have b1 : Below w.heap.size w w1 := (bel2a w _ _).trans (hb1.mono (by simp; omega))
 have l1 : w.heap.size + 1 < w1.heap.size := by omega
 clear hb1
 go_wp2_with fail
 go_loopw [15] (fun v wr => ∃ k : Nat, k ≤ ps.length ∧ v = .int .i64 k ∧ row? wr (w.heap.size + 1) = some (bvs (zeros 16)) ∧ row? wr w1.heap.size = some (wv (wof h)) ∧ row? wr (w1.heap.size + 1) = some (wv (hashParts (wof h) (ps.take k))) ∧ Below w.heap.size w wr) (fun v _ => ps.length - (intOf v).toNat)
 case atStart =>
  have l0 : w.heap.size < w1.heap.size := by omega
  exact ⟨0, by omega, rfl, by simp [go_sem, l0, l1, r1], by simp [go_sem], by simp [go_sem]; rfl, (b1.alloc (by omega) _).alloc (by first | omega | (simp; done) | (simp; omega)) _⟩
 case round =>
  obtain ⟨k, hk, rfl, h1, h2, h3, hbl⟩ := hrel
  by_cases hlt : k < ps.length
  ·obtain ⟨b, off, rfl, hc⟩ := hp (by omega)
   obtain ⟨u, hu, hs⟩ := hc k hlt
   have hcell := below_cell hbl hu (cell_lt hu)
   have E := Lib.hid (hashParts_step (wof h) ps k hlt)
   generalize hashParts (wof h) (ps.take k) = y0 at h3 E
   generalize ps.getD k [] = p at hs E
   have HS := Lib.hid hs
   have H1 := Lib.hid h1
   have H2 := Lib.hid h2
   have H3 := Lib.hid h3
   have HU := Lib.hid hu
   have HC := Lib.hid hc
   clear hs hu hc h1 h2 h3
   go_wp2_with fail
   go_loopw [8] (fun v wr => ∃ q y, Sl w v q ∧ row? wr (w.heap.size + 1) = some (bvs (zeros 16)) ∧ row? wr w1.heap.size = some (wv (wof h)) ∧ row? wr (w1.heap.size + 1) = some (wv y) ∧ hashPart (wof h) y q = hashPart (wof h) y0 p ∧ Below w.heap.size w wr) (fun v _ => lenOf v)
   case atStart => exact ⟨p, y0, HS.out, H1.out, H2.out, H3.out, rfl, hbl⟩
   case round =>
    obtain ⟨q, y, hs, h1, h2, h3, he, hbq⟩ := hrel
    have hS := hs
    obtain ⟨ao', cap', rfl, hc', hn', hp'⟩ := hS
    clear hp' hn' hp hcell
    have HE := Lib.hid he
    clear he
    by_cases h0 : 0 < q.length
    ·have hsq : Sl (wr.alloc (.cells (bvs (zeros 16)) 66)) (.slice ao' q.length cap') q := hs.below (hbq.alloc (by have := hbq.size; omega) _)
     have hcopy := run_copy_sl (P := Tryz.prog) (dT := 22) (sT := 22) (ty := 3) (elem := 5) Tryz.underlying22 (by kernel_rfl) 16 16 (row?_alloc_at wr (bvs (zeros 16)) 66 _ rfl) (zeros_length _) hsq
     rw [pad_copy, setRow_alloc_at _ _ _ _ _ rfl] at hcopy
     have hm1 : Nat.min q.length 16 ≤ q.length := Nat.min_le_left _ _
     have hm2 : q.drop (Nat.min q.length 16) = q.drop 16 := by
      show q.drop (min q.length 16) = _
      rcases Nat.le_total q.length 16 with h | h
      ·rw [Nat.min_eq_left h, List.drop_eq_nil_of_le (Nat.le_refl _), List.drop_eq_nil_of_le h]
      ·rw [Nat.min_eq_right h]
     have hm3 : 0 < Nat.min q.length 16 := by show 0 < min q.length 16; omega
     have hcut : ∀ W, (Instr.sliceAt 22 (.slice ao' q.length cap') (some (.int .i64 (Nat.min q.length 16 : Nat))) none none).run Tryz.prog W = .ok (.slice (cutA ao' (Nat.min q.length 16) cap') (q.length - Nat.min q.length 16) (cap' - Nat.min q.length 16)) W := fun W =>
      cut_l TBg W ao' q.length cap' .i64 _ (by omega) (by omega)
     have hsc := hs.cut (Nat.min q.length 16) q.length hm1 (Nat.le_refl _)
     rw [List.take_length, hm2] at hsc
     have hstep := hashPart_step (wof h) y q h0
     generalize Nat.min q.length 16 = m at hcopy hcut hsc hm1 hm3
     have HS2 := Lib.hid hsc
     have HT := Lib.hid hstep
     have H1 := Lib.hid h1
     have H2 := Lib.hid h2
     have H3 := Lib.hid h3
     clear hsq hsc hm2 hstep hs
     go_wp2_with fail
     refine (of_any (padAt q 0) (padAt_length _ _) _).mono ?_
     rintro e wA ⟨rfl, hA⟩
     have q1 := row?_lt H1.out
     have q2 := row?_lt H2.out
     have q3 := row?_lt H3.out
     have zA := hA.size
     simp at zA
     have g1 : row? wA (w.heap.size + 1) = some (bvs (zeros 16)) := by rw [row?_below hA (by simp; omega), row?_alloc_past _ _ _ q1]; exact H1.out
     have g2 : row? wA w1.heap.size = some (wv (wof h)) := by rw [row?_below hA (by simp; omega), row?_alloc_past _ _ _ q2]; exact H2.out
     have g3 : row? wA (w1.heap.size + 1) = some (wv y) := by rw [row?_below hA (by simp; omega), row?_alloc_past _ _ _ q3]; exact H3.out
     have gb : Below w.heap.size w wA := (hbq.alloc (by omega) _).trans (hA.mono (by simp; omega))
     have d3 := row?_cell g3
     have p1 : w.heap.size + 1 < wA.heap.size := by omega
     have p2 : w1.heap.size < wA.heap.size := by omega
     have p3 : w1.heap.size + 1 < wA.heap.size := by omega
     clear hcopy hA
     go_wp2_with fail
     refine (timesw_any (wxor y (wof (padAt q 0))) (wof h) _).mono ?_
     rintro e wB ⟨rfl, hB⟩
     have zB := hB.size
     simp at zB
     have k1 : row? wB (w.heap.size + 1) = some (bvs (zeros 16)) := by rw [row?_below hB (by simp; omega), row?_alloc_past _ _ _ p1]; exact g1
     have k2 : row? wB w1.heap.size = some (wv (wof h)) := by rw [row?_below hB (by simp; omega), row?_alloc_past _ _ _ p2]; exact g2
     have k3 : row? wB (w1.heap.size + 1) = some (wv y) := by rw [row?_below hB (by simp; omega), row?_alloc_past _ _ _ p3]; exact g3
     have kb : Below w.heap.size w wB := (gb.alloc (by omega) _).trans (hB.mono (by simp; omega))
     clear g1 g2 g3 gb d3 hB
     have K1 := Lib.hid k1
     have K2 := Lib.hid k2
     clear k1 k2
     go_wp2_with fail
     go_roundw
     case rel =>
      refine ⟨q.drop 16, timesW (wxor y (wof (padAt q 0))) (wof h), HS2.out, ?_, ?_, row?_setRow_eq k3, by rw [← HT.out]; exact HE.out, below_setRow kb (by omega) _⟩
      ·rw [row?_setRow_ne _ _ _ _ (by omega)]; exact K1.out
      ·rw [row?_setRow_ne _ _ _ _ (by omega)]; exact K2.out
     case measure => simp [lenOf]; omega
    ·obtain rfl : q = [] := List.eq_nil_of_length_eq_zero (by omega)
     have H1 := Lib.hid h1
     have H2 := Lib.hid h2
     have H3 := Lib.hid h3
     have HS3 := Lib.hid hs
     clear h1 h2 h3 hs
     go_wp2_with fail
     go_roundw
     case rel =>
      refine ⟨k + 1, by omega, by go_num, H1.out, H2.out, ?_, hbq⟩
      rw [E.out, ← HE.out]; exact H3.out
     case measure => simp [intOf]; omega
  ·obtain rfl : k = ps.length := by omega
   rw [List.take_length] at h3
   go_wp2_with fail
   refine (blk_any _ _).mono ?_
   rintro e wA ⟨rfl, hA⟩
   have q1 := row?_lt h1
   have g1 : row? wA (w.heap.size + 1) = some (bvs (zeros 16)) := by rw [row?_below hA (by omega)]; exact h1
   have gb : Below w.heap.size w wA := hbl.trans (hA.mono hbl.size)
   clear h1 h2 h3 hbl hA
   go_wp2_with fail
   exact ret16 (w.heap.size + 1) (bvs (Gcm.hash h ps)) rfl rfl rfl (row?_setRow_eq g1) (by rw [bvs_size]; exact hash_length _ _) ⟨rfl, below_setRow gb (by omega) _⟩
end Go.Proofs.YthjbmggpleliaaaGreatDoor

end
section
namespace Go.Proofs.YthjbmggpleliaaaGreatDoor
open Go.RowKit Go.Rw Aes Gcm
attribute [local go_sem ↓] ld12 ld16 st16 al16 ldW stW alW shift_shl8 shift_shr8 shift_shl64 shift_shr64 shift_shr32 bvs_getElem? wv_0 wv_1
attribute [local go_sem] rld12 rld16 rst16 ral16 rldW rstW ralW setRow_alloc_at setRow_alloc_past setRow_drew bvs_setn wv_set0 wv_set1
set_option maxRecDepth 100000 in
set_option maxHeartbeats 1000000 in
theorem cipher_any (key nonce text : List UInt8) (hk : key.length = 16) (hn : nonce.length = 12) (ht : text.length ≤ 1000000) (v : Value) (w : World) (hs : Sl w v text) :
  Calls Tryz.prog 161 #[.agg (bvs key), .agg (bvs nonce), v] w fun e w' =>
   ∃ g, e = .returned (.slice (some ⟨g, 0, none⟩) text.length (text.length + 16)) ∧ w'.ownsRow w.heap.size 5 1 (.slice (some ⟨g, 0, none⟩) text.length (text.length + 16)) text.length ((enc key nonce text).map bv) ∧ Below w.heap.size w w' := by
 have hS := hs
 obtain ⟨ao, cap, rfl, hc, hnn, hp⟩ := hS
 obtain ⟨i0, hi, hz0, hz1, hz2⟩ := info_parts info8g
 go_enter Tryz.func161, Tryz.ntmps161
 go_wp2_with (at_make; refine wpList_make_own _ rfl _ _ 22 rfl w.heap.size 5 i0 (.int .u8 0) 1 Tryz.underlying22 hi hz0 hz1 _ _ _ (text.length + 16) rfl rfl (by omega) ?b1 ?b2 ?b3 ?_)
 case b1 => rw [hz2]; omega
 case b2 => unfold maxLen; omega
 case b3 => simp; omega
 intro w1 hown1 hgrow1
 have z1 := hgrow1.size
 simp at z1 hown1
 have z2 := (hown1.lt (w.heap.size + 1 + 1) rfl).2
 have r0 : row? w1 w.heap.size = some (bvs key) := by rw [grown_row0 hgrow1 (by simp; omega)]; simp [go_sem]
 have r1 : row? w1 (w.heap.size + 1) = some (bvs nonce) := by rw [grown_row0 hgrow1 (by simp)]; simp [go_sem]
 have b1 : Below w.heap.size w w1 := (bel2a w _ _).grown hgrow1 (by simp; omega) (by simp)
 have l0 : w.heap.size < w1.heap.size := by omega
 have l1 : w.heap.size + 1 < w1.heap.size := by omega
 have R0 := Lib.hid r0
 have R1 := Lib.hid r1
 have O1 := Lib.hid hown1
 clear hgrow1 r0 r1 hown1
 go_wp2_with fail
 go_loopw [7, 17] (fun o v wr => ∃ k : Nat, k ≤ text.length ∧ v = .int .i64 k ∧ o = .slice (some ⟨w.heap.size + 1 + 1, 0, none⟩) k (text.length + 16) ∧ wr.ownsRow w.heap.size 5 1 (.slice (some ⟨w.heap.size + 1 + 1, 0, none⟩) k (text.length + 16)) k ((encTo key nonce text k).map bv)
   ∧ row? wr w.heap.size = some (bvs key) ∧ row? wr (w.heap.size + 1) = some (bvs nonce) ∧ (∃ W, row? wr w1.heap.size = some (bvs W) ∧ W.length = 16 ∧ (k % 16 ≠ 0 → W = block key (ctr nonce (k / 16 + 2)))) ∧ Below w.heap.size w wr) (fun _ v _ => text.length - (intOf v).toNat)
 case atStart =>
  refine ⟨0, by omega, rfl, rfl, O1.out.alloc _, ?_, ?_, ⟨zeros 16, by simp [go_sem], zeros_length _, fun h => absurd rfl h⟩, b1.alloc (by omega) _⟩
  ·rw [row?_alloc_past _ _ _ l0]; exact R0.out
  ·rw [row?_alloc_past _ _ _ l1]; exact R1.out
 case round =>
  obtain ⟨k, hk', rfl, rfl, hown, h0, h1, ⟨W, h2, hW, hWk⟩, hbl⟩ := hrel
  by_cases hlt : k < text.length
  ·obtain ⟨b, off, rfl, hcell⟩ := hp (by omega)
   have hck := below_cell hbl (hcell k hlt) (cell_lt (hcell k hlt))
   have H0 := Lib.hid h0
   have H1 := Lib.hid h1
   have H2 := Lib.hid h2
   have HO := Lib.hid hown
   have HC := Lib.hid hcell
   clear hcell hown
   by_cases h16 : k % 16 = 0
   ·have e16 : (k : Int) % 16 = 0 := by omega
    clear hWk
    go_wp2_with fail
    clear e16
    refine Rg.wp_region_plan (Rg.row [(0, 0), (1, 0), (2, 3), (3, 3), (4, 3), (5, 3), (6, 1), (7, 1)] [8]) [8] (by kernel_rfl) (by kernel_rfl) ?_
    simp only [Rg.row, Rg.PT.map, List.map_cons, List.map_nil, List.getD_cons_zero, List.getD_cons_succ]
    go_wp2_with (first
     |(with_reducible refine Rg.plan_pure ?_ ?_ ?_); kernel_rfl; kernel_rfl; intro _ _|(with_reducible refine Rg.plan_take ?_ ?_ ?_); kernel_rfl; kernel_rfl; intro _ _|(with_reducible refine Rg.plan_keep ?_ ?_); kernel_rfl; intro K hK|refine hK _ _ (Rg.Keep.refl _) ?_; clear hK|refine hK _ _ (Rg.Keep.of_below (by assumption)) ?_; clear hK|(with_reducible refine Rg.plan_skip ?_ ?_); kernel_rfl|(with_reducible refine Rg.plan_done ?_)|(with_reducible refine Rg.calm_normal ?_))
    rw [show (k : Int) / 16 + 2 = ((k / 16 + 2 : Nat) : Int) from rfl]
    refine (counter_any nonce (k / 16 + 2) hn (by omega) _).mono ?_
    rintro e wA ⟨rfl, hA⟩
    refine hK _ _ (Rg.Keep.of_below hA) ?_
    clear hK
    go_wp2_with (first
     |(with_reducible refine Rg.plan_pure ?_ ?_ ?_); kernel_rfl; kernel_rfl; intro _ _|(with_reducible refine Rg.plan_take ?_ ?_ ?_); kernel_rfl; kernel_rfl; intro _ _|(with_reducible refine Rg.plan_keep ?_ ?_); kernel_rfl; intro K hK|refine hK _ _ (Rg.Keep.refl _) ?_; clear hK|refine hK _ _ (Rg.Keep.of_below (by assumption)) ?_; clear hK|(with_reducible refine Rg.plan_skip ?_ ?_); kernel_rfl|(with_reducible refine Rg.plan_done ?_)|(with_reducible refine Rg.calm_normal ?_))
    refine (block_any key (ctr nonce (k / 16 + 2)) hk (ctr_length _ _) _).mono ?_
    rintro e wB ⟨rfl, hB⟩
    refine hK _ _ (Rg.Keep.of_below hB) ?_
    clear hK
    have hAB : Below wr.heap.size wr wB := (Below.drew (Below.refl _ wr)).trans (hA.trans (hB.mono hA.size))
    have q1 := row?_lt H1.out
    have q2 := row?_lt H2.out
    have g2 : row? wB w1.heap.size = some (bvs W) := by rw [row?_below hAB q2]; exact H2.out
    have gb : Below w.heap.size w wB := hbl.trans (hAB.mono hbl.size)
    have HO2 := Lib.hid (own_same (w' := wB.setRow w1.heap.size (bvs (block key (ctr nonce (k / 16 + 2))))) HO.out (by rw [setRow_other _ _ _ _ (by omega)]; exact hAB.block _ (by omega)))
    have gb2 := below_setRow gb (by omega : w.heap.size ≤ w1.heap.size) (bvs (block key (ctr nonce (k / 16 + 2))))
    have g3 := row?_setRow_eq g2 (c' := bvs (block key (ctr nonce (k / 16 + 2))))
    have EF0 := encF_at key nonce text k
    have X0 := Lib.hid (show row? (wB.setRow w1.heap.size (bvs (block key (ctr nonce (k / 16 + 2))))) w.heap.size = some (bvs key) by rw [row?_setRow_ne _ _ _ _ (by omega), row?_below hAB (by omega)]; exact H0.out)
    have X1 := Lib.hid (show row? (wB.setRow w1.heap.size (bvs (block key (ctr nonce (k / 16 + 2))))) (w.heap.size + 1) = some (bvs nonce) by rw [row?_setRow_ne _ _ _ _ (by omega), row?_below hAB q1]; exact H1.out)
    have X2 := Lib.hid g3
    have XB := Lib.hid gb2
    have zAB := hAB.size
    have c3 := row?_cell g3
    clear hA hB hAB hck h0 h1 h2 
    rw [h16] at EF0
    have EF := Lib.hid EF0
    clear EF0
    go_wp2_with (first
     | (at_builtin; refine wpList_append_fits _ rfl _ _ 22 rfl w.heap.size 5 i0 1 Tryz.underlying22 hi hz1 (w.heap.size + 1 + 1) k (text.length + 16) _ rfl (HO2.out.alloc _) ⟨_, 0, none⟩ 1 1 [bv (encF key nonce text k)] rfl rfl ?c1A ?c2A ?c3A ?_)
     |(with_reducible refine Rg.plan_pure ?_ ?_ ?_); kernel_rfl; kernel_rfl; intro _ _|(with_reducible refine Rg.plan_take ?_ ?_ ?_); kernel_rfl; kernel_rfl; intro _ _|(with_reducible refine Rg.plan_keep ?_ ?_); kernel_rfl; intro K hK|refine hK _ _ (Rg.Keep.refl _) ?_; clear hK|refine hK _ _ (Rg.Keep.of_below (by assumption)) ?_; clear hK|(with_reducible refine Rg.plan_skip ?_ ?_); kernel_rfl|(with_reducible refine Rg.plan_done ?_)|(with_reducible refine Rg.calm_normal ?_))
    case c1A =>
     intro j u hj
     match j, hj with
     | 0, hj => simp at hj; subst hj; rw [EF.out]; exact cell_new _ _ _ _ (by simp)
    case c2A => exact map_bv_one [_]
    case c3A => omega
    intro w2 hown2 hgrow2
    have q0 := row?_lt H0.out
    have q1 := row?_lt H1.out
    have q2 := row?_lt H2.out
    have k0 : row? w2 w.heap.size = some (bvs key) := by rw [grown_row hgrow2 (by simp; omega) (by omega), row?_alloc_past _ _ _ (by first | omega | (simp; done) | (simp; omega))]; exact X0.out
    have k1 : row? w2 (w.heap.size + 1) = some (bvs nonce) := by rw [grown_row hgrow2 (by simp; omega) (by omega), row?_alloc_past _ _ _ (by first | omega | (simp; done) | (simp; omega))]; exact X1.out
    have k2 : row? w2 w1.heap.size = some (bvs (block key (ctr nonce (k / 16 + 2)))) := by rw [grown_row hgrow2 (by simp; omega) (by omega), row?_alloc_past _ _ _ (by first | omega | (simp; done) | (simp; omega))]; exact X2.out
    have kb : Below w.heap.size w w2 := (XB.out.alloc (by first | omega | (simp; done) | (simp; omega)) _).grown hgrow2 (by simp; omega) (by intro j hj; cases hj; omega)
    have hown3 : w2.ownsRow w.heap.size 5 1 (.slice (some ⟨w.heap.size + 1 + 1, 0, none⟩) (k + 1) (text.length + 16)) (k + 1) ((encTo key nonce text (k + 1)).map bv) := by
     rw [encTo_succ, List.map_append]; exact hown2
    have K0 := Lib.hid k0
    have K1 := Lib.hid k1
    have K2 := Lib.hid k2
    have K3 := Lib.hid hown3
    clear k0 k1 k2 hown2 hown3 hgrow2
    go_wp2_with fail
    go_roundw
    case rel => exact ⟨k + 1, by omega, by go_num, rfl, K3.out, K0.out, K1.out, ⟨_, K2.out, block_length _ _, fun h => by rw [show (k + 1) / 16 = k / 16 by omega]⟩, kb⟩
    case measure => simp [intOf]; omega
   ·have h16' : ¬ (k : Int) % 16 = 0 := by omega
    have hW2 := hWk h16
    subst hW2
    clear hWk
    have g3 := H2.out
    have c3 := row?_cell g3
    have HO2 := HO
    have EF := Lib.hid (encF_at key nonce text k)
    have X0 := H0
    have X1 := H1
    have X2 := H2
    have XB := Lib.hid hbl
    clear h0 h1 h2
    go_wp2_with (at_builtin; refine wpList_append_fits _ rfl _ _ 22 rfl w.heap.size 5 i0 1 Tryz.underlying22 hi hz1 (w.heap.size + 1 + 1) k (text.length + 16) _ rfl (HO2.out.alloc _) ⟨_, 0, none⟩ 1 1 [bv (encF key nonce text k)] rfl rfl ?c1B ?c2B ?c3B ?_)
    case c1B =>
     intro j u hj
     match j, hj with
     | 0, hj => simp at hj; subst hj; rw [EF.out]; exact cell_new _ _ _ _ (by simp)
    case c2B => exact map_bv_one [_]
    case c3B => omega
    intro w2 hown2 hgrow2
    have q0 := row?_lt H0.out
    have q1 := row?_lt H1.out
    have q2 := row?_lt H2.out
    have k0 : row? w2 w.heap.size = some (bvs key) := by rw [grown_row hgrow2 (by simp; omega) (by omega), row?_alloc_past _ _ _ (by first | omega | (simp; done) | (simp; omega))]; exact X0.out
    have k1 : row? w2 (w.heap.size + 1) = some (bvs nonce) := by rw [grown_row hgrow2 (by simp; omega) (by omega), row?_alloc_past _ _ _ (by first | omega | (simp; done) | (simp; omega))]; exact X1.out
    have k2 : row? w2 w1.heap.size = some (bvs (block key (ctr nonce (k / 16 + 2)))) := by rw [grown_row hgrow2 (by simp; omega) (by omega), row?_alloc_past _ _ _ (by first | omega | (simp; done) | (simp; omega))]; exact X2.out
    have kb : Below w.heap.size w w2 := (XB.out.alloc (by first | omega | (simp; done) | (simp; omega)) _).grown hgrow2 (by simp; omega) (by intro j hj; cases hj; omega)
    have hown3 : w2.ownsRow w.heap.size 5 1 (.slice (some ⟨w.heap.size + 1 + 1, 0, none⟩) (k + 1) (text.length + 16)) (k + 1) ((encTo key nonce text (k + 1)).map bv) := by
     rw [encTo_succ, List.map_append]; exact hown2
    have K0 := Lib.hid k0
    have K1 := Lib.hid k1
    have K2 := Lib.hid k2
    have K3 := Lib.hid hown3
    clear k0 k1 k2 hown2 hown3 hgrow2
    go_wp2_with fail
    go_roundw
    case rel => exact ⟨k + 1, by omega, by go_num, rfl, K3.out, K0.out, K1.out, ⟨_, K2.out, block_length _ _, fun h => by rw [show (k + 1) / 16 = k / 16 by omega]⟩, kb⟩
    case measure => simp [intOf]; omega
  ·obtain rfl : k = text.length := by omega
   rw [encTo_full] at hown
   have HO := Lib.hid hown
   clear hown
   go_wp2_with fail
   go_ret
   exact ⟨_, rfl, HO.out, hbl⟩
end Go.Proofs.YthjbmggpleliaaaGreatDoor

end
section
namespace Go.Proofs.YthjbmggpleliaaaGreatDoor
open Go.RowKit Go.Rw Aes Gcm
attribute [local go_sem ↓] ld12 ld16 st16 al16 ldW stW alW shift_shl8 shift_shr8 shift_shl64 shift_shr64 shift_shr32 bvs_getElem? wv_0 wv_1
attribute [local go_sem] rld12 rld16 rst16 ral16 rldW rstW ralW setRow_alloc_at setRow_alloc_past setRow_drew bvs_setn wv_set0 wv_set1
theorem word_n (n : Nat) (h : n ≤ 1000000) : (8 : Int) * (n : Int) = ((n64 (word n) : Nat) : Int) := by
 rw [word, n64_ofNat _ (by omega)]; omega
set_option maxRecDepth 100000 in
set_option maxHeartbeats 1000000 in
theorem tag_any (key nonce text data : List UInt8) (hk : key.length = 16) (hn : nonce.length = 12) (ht : text.length ≤ 1000000) (hdl : data.length ≤ 1000000) (vs vd : Value) (w : World) (hs : Sl w vs text) (hd : Sl w vd data) :
  Calls Tryz.prog 162 #[.agg (bvs key), .agg (bvs nonce), vs, vd] w fun e w' => e = .returned (.agg (bvs (tag key nonce text data))) ∧ Below w.heap.size w w' := by
 have hs0 := hs
 have hd0 := hd
 obtain ⟨ao, cap, rfl, hc, hnn, hp⟩ := hs0
 obtain ⟨ao2, cap2, rfl, hc2, hnn2, hp2⟩ := hd0
 clear hp hp2 hnn hnn2
 go_enter Tryz.func162, Tryz.ntmps162
 go_wp2_with fail
 refine (block_any key (zeros 16) hk (zeros_length 16) _).mono ?_
 rintro e wA ⟨rfl, hA⟩
 have zA := hA.size
 simp at zA
 have a0 : row? wA w.heap.size = some (bvs key) := by rw [row?_below hA (by simp; omega)]; simp [go_sem]
 have a1 : row? wA (w.heap.size + 1) = some (bvs nonce) := by rw [row?_below hA (by simp <;> omega)]; simp [go_sem]
 have a2 : row? wA (w.heap.size + 1 + 1) = some (bvs (zeros 16)) := by rw [row?_below hA (by simp)]; simp [go_sem]
 have ab : Below w.heap.size w wA := (bel3a w _ _ _).trans (hA.mono (by simp; omega))
 clear hA
 generalize hH : block key (zeros 16) = H at *
 have hHl : H.length = 16 := by rw [← hH]; exact block_length _ _
 go_wp2_with fail
 rw [word_n _ hdl, word_n _ ht]
 refine (blk_any (word data.length, word text.length) _).mono ?_
 rintro e wB ⟨rfl, hB⟩
 have zB := hB.size
 simp at zB
 have b0 : row? wB w.heap.size = some (bvs key) := by rw [row?_below hB (by simp; omega), row?_alloc_past _ _ _ (by omega)]; exact a0
 have b1 : row? wB (w.heap.size + 1) = some (bvs nonce) := by rw [row?_below hB (by simp; omega), row?_alloc_past _ _ _ (by omega)]; exact a1
 have b2 : row? wB (w.heap.size + 1 + 1) = some (bvs (zeros 16)) := by rw [row?_below hB (by simp; omega), row?_alloc_past _ _ _ (by omega)]; exact a2
 have b3 : row? wB wA.heap.size = some (bvs H) := by rw [row?_below hB (by simp)]; simp [go_sem]
 have bb : Below w.heap.size w wB := (ab.alloc (by omega) _).trans (hB.mono (by simp; omega))
 clear hB a0 a1 a2 ab
 generalize hL : blk (word data.length, word text.length) = L at *
 have hLl : L.length = 16 := by rw [← hL]; exact blk_length _
 go_wp2_with fail
 have m0 : w.heap.size < wB.heap.size := by omega
 have m1 : w.heap.size + 1 < wB.heap.size := by omega
 have m3 : wA.heap.size < wB.heap.size := by omega
 refine Rg.wp_region_flo [(0, 0), (1, 3), (2, 3), (3, 3), (6, 0), (7, 0)] [
   ⟨4, 31, [], true, fun v w' => ∃ B, v = .slice (some ⟨B, 0, none⟩) 3 3 ∧ row? w' B = some #[.slice ao2 data.length cap2, .slice ao text.length cap, .slice (some ⟨wB.heap.size, 0, none⟩) 16 16]⟩,
   ⟨5, 32, [4], false, fun v _ => v = .agg (bvs (Gcm.hash H [data, text, L]))⟩,
   ⟨8, 35, [5], false, fun v _ => v = .agg (bvs (ctr nonce 1))⟩,
   ⟨9, 36, [8], false, fun v _ => v = .agg (bvs (block key (ctr nonce 1)))⟩,
   ⟨10, 11, [], true, fun v w' => ∃ B, v = .pointer (some ⟨B, 0, none⟩) ∧ row? w' B = some (bvs (zeros 16))⟩,
   ⟨11, 12, [], true, fun v w' => ∃ B, v = .pointer (some ⟨B, 0, none⟩) ∧ row? w' B = some (bvs (zeros 16))⟩] [(4, 31, []), (5, 32, [4]), (8, 35, [5]), (9, 36, [8]), (10, 11, []), (11, 12, [])] [12, 13] (by kernel_rfl) (by kernel_rfl) rfl ?_
 simp only [Rg.row, Rg.PT.map, List.getD_cons_zero, List.getD_cons_succ]
 go_wp2_with (first
  |(with_reducible refine Rg.plan_pure ?_ ?_ ?_); kernel_rfl; kernel_rfl; intro _ _|(with_reducible refine Rg.plan_take ?_ ?_ ?_); kernel_rfl; kernel_rfl; intro _ _|(with_reducible refine Rg.plan_keep ?_ ?_); kernel_rfl; intro K hK|refine hK _ _ (Rg.Keep.refl _) ?_; clear hK|refine hK _ _ (Rg.Keep.of_below (by assumption)) ?_; clear hK|(with_reducible refine Rg.plan_skip ?_ ?_); kernel_rfl|(with_reducible refine Rg.plan_done ?_)|(with_reducible refine Rg.calm_normal ?_))
 have bW : Below w.heap.size w (wB.alloc (.cells (bvs L) 66)).drew := (bb.alloc (by omega) _).drew
 have w2 : row? (wB.alloc (.cells (bvs L) 66)).drew (w.heap.size + 1 + 1) = some (bvs (zeros 16)) := by rw [row?_drew, row?_alloc_past _ _ _ (row?_lt b2)]; exact b2
 have w3 : row? (wB.alloc (.cells (bvs L) 66)).drew wB.heap.size = some (bvs L) := by simp [go_sem]
 clear b0 b1 b2 b3 bb m0 m1 m3
 refine Rg.phase_done (Rg.Phase.mk ?_ ?_ ?_)
 ·refine List.forall_mem_cons.2 ⟨?_, List.forall_mem_cons.2 ⟨?_, List.forall_mem_cons.2 ⟨?_, List.forall_mem_cons.2 ⟨?_, List.forall_mem_cons.2 ⟨?_, List.forall_mem_cons.2 ⟨?_, fun r hr => (by cases hr)⟩⟩⟩⟩⟩⟩
  ·rintro v w1 w2 hb ⟨B, e, h⟩; exact ⟨B, e, Rg.stable_row hb h⟩
  ·exact fun v w1 w2 _ h => h
  ·exact fun v w1 w2 _ h => h
  ·exact fun v w1 w2 _ h => h
  ·rintro v w1 w2 hb ⟨B, e, h⟩; exact ⟨B, e, Rg.stable_row hb h⟩
  ·rintro v w1 w2 hb ⟨B, e, h⟩; exact ⟨B, e, Rg.stable_row hb h⟩
 ·refine List.forall_mem_cons.2 ⟨?_, List.forall_mem_cons.2 ⟨?_, List.forall_mem_cons.2 ⟨?_, List.forall_mem_cons.2 ⟨?_, List.forall_mem_cons.2 ⟨?_, List.forall_mem_cons.2 ⟨?_, fun r hr => (by cases hr)⟩⟩⟩⟩⟩⟩
  ·intro us wx hbx hdep K hK
   exact Rg.exec_value (v := .slice (some ⟨wx.heap.size, 0, none⟩) 3 3) (w' := wx.alloc (.cells #[.slice ao2 data.length cap2, .slice ao text.length cap, .slice (some ⟨wB.heap.size, 0, none⟩) 16 16] 22)) (by simp [go_sem, execOp, Rg.puts]) (hK _ _ _ rfl ⟨_, rfl, row?_alloc_at _ _ _ _ rfl⟩ ((Below.refl _ _).alloc (Nat.le_refl _) _) (fun _ => ⟨Nat.le_refl _, by simp [Rg.vblk]⟩))
  ·intro us wx hbx hdep K hK
   obtain ⟨B4, e4, h4⟩ := (List.forall_mem_cons.1 hdep).1 (by simp)
   have hP : Pts wx (.slice (some ⟨B4, 0, none⟩) 3 3) [data, text, L] := by
    refine ⟨_, 3, rfl, fun _ => ⟨B4, 0, rfl, fun k hk => ?_⟩⟩
    rw [row?_cell h4]
    have hbw := bW.trans (hbx.mono bW.size)
    match k, hk with
    | 0, _ => exact ⟨_, rfl, hd.below hbw⟩
    | 1, _ => exact ⟨_, rfl, hs.below hbw⟩
    | 2, _ =>
     have := Sl.row (Rg.stable_row hbx w3)
     rw [hLl] at this
     exact ⟨_, rfl, this⟩
   refine Rg.exec_call (args := #[.agg (bvs H), .slice (some ⟨B4, 0, none⟩) 3 3]) (by simp [go_sem, execOp, Rg.puts, e4]) (hash_any H hHl [data, text, L] (by simp) _ _ hP) ?_
   rintro e wy ⟨rfl, hy⟩
   exact ⟨_, rfl, hK _ _ _ rfl rfl hy (fun h => (by cases h))⟩
  ·intro us wx hbx hdep K hK
   refine Rg.exec_call (args := #[.agg (bvs nonce), .int .u32 (1 : Nat)]) (by simp [go_sem, execOp, Rg.puts]) (counter_any nonce 1 hn (by omega) _) ?_
   rintro e wy ⟨rfl, hy⟩
   exact ⟨_, rfl, hK _ _ _ rfl rfl hy (fun h => (by cases h))⟩
  ·intro us wx hbx hdep K hK
   have e8 : us 8 = .agg (bvs (ctr nonce 1)) := (List.forall_mem_cons.1 (List.forall_mem_cons.1 (List.forall_mem_cons.1 hdep).2).2).1 (by simp)
   refine Rg.exec_call (args := #[.agg (bvs key), .agg (bvs (ctr nonce 1))]) (by simp [go_sem, execOp, Rg.puts, e8]) (block_any key (ctr nonce 1) hk (ctr_length _ _) _) ?_
   rintro e wy ⟨rfl, hy⟩
   exact ⟨_, rfl, hK _ _ _ rfl rfl hy (fun h => (by cases h))⟩
  ·intro us wx hbx hdep K hK
   exact Rg.exec_value (by simp [go_sem, execOp, Rg.puts]; rfl) (hK _ _ _ rfl ⟨_, rfl, row?_alloc_at _ _ _ _ rfl⟩ ((Below.refl _ _).alloc (Nat.le_refl _) _) (fun _ => ⟨Nat.le_refl _, by simp [Rg.vblk]⟩))
  ·intro us wx hbx hdep K hK
   exact Rg.exec_value (by simp [go_sem, execOp, Rg.puts]; rfl) (hK _ _ _ rfl ⟨_, rfl, row?_alloc_at _ _ _ _ rfl⟩ ((Below.refl _ _).alloc (Nat.le_refl _) _) (fun _ => ⟨Nat.le_refl _, by simp [Rg.vblk]⟩))
 ·intro us wZ hbZ hJ hfr hne
  have hne0 : Rg.vblk (us 10) ≠ Rg.vblk (us 11) := hne _ (List.getElem_mem (n := 4) (by simp)) _ (List.getElem_mem (n := 5) (by simp)) (by simp) rfl rfl
  have hfr0 : (wB.alloc (.cells (bvs L) 66)).drew.heap.size ≤ Rg.vblk (us 10) := (hfr _ (List.getElem_mem (n := 4) (by simp)) rfl).1
  have hfr1 : (wB.alloc (.cells (bvs L) 66)).drew.heap.size ≤ Rg.vblk (us 11) := (hfr _ (List.getElem_mem (n := 5) (by simp)) rfl).1
  simp only [List.forall_mem_cons] at hJ
  obtain ⟨⟨B4, e4, -⟩, e5, e8, e9, ⟨BS, e10, rS⟩, ⟨BF, e11, rF⟩, -⟩ := hJ
  simp only [e10, e11, Rg.vblk] at hne0 hfr0 hfr1
  have z0 : row? wZ (w.heap.size + 1 + 1) = some (bvs (zeros 16)) := Rg.stable_row hbZ w2
  have zb : Below w.heap.size w wZ := bW.trans (hbZ.mono bW.size)
  have zs := bW.size
  simp only [Rg.puts, List.map_cons, List.map_nil, List.getD_cons_zero, List.getD_cons_succ]
  simp only [e4, e5, e8, e9, e10, e11]
  clear hdl hd hs
  generalize hS : Gcm.hash H [data, text, L] = S at *
  have hSl : S.length = 16 := by rw [← hS]; exact hash_length _ _
  generalize hF : block key (ctr nonce 1) = F at *
  have hFl : F.length = 16 := by rw [← hF]; exact block_length _ _
  have hT : tag key nonce text data = add S F := by rw [← hS, ← hF, ← hH, ← hL]; rfl
  have zE0 := below_setRow (below_setRow zb (by omega : w.heap.size ≤ BS) (bvs S)) (by omega : w.heap.size ≤ BF) (bvs F)
  have n1 : BS < wZ.heap.size := row?_lt rS
  have n2 : BF < wZ.heap.size := row?_lt rF
  simp at hfr0 hfr1
  have rF2 : row? (wZ.setRow BS (bvs S)) BF = some (bvs (zeros 16)) := by rw [row?_setRow_ne _ _ _ _ (fun e => hne0 e.symm)]; exact rF
  have E1 := Lib.hid (show row? ((wZ.setRow BS (bvs S)).setRow BF (bvs F)) BS = some (bvs S) by rw [row?_setRow_ne _ _ _ _ hne0]; exact row?_setRow_eq rS)
  have E2 := Lib.hid (row?_setRow_eq rF2 (c' := bvs F))
  have E3 := Lib.hid (show row? ((wZ.setRow BS (bvs S)).setRow BF (bvs F)) (w.heap.size + 1 + 1) = some (bvs (zeros 16)) by rw [row?_setRow_ne _ _ _ _ (by omega), row?_setRow_ne _ _ _ _ (by omega)]; exact z0)
  have NE := Lib.hid hne0
  go_wp2_with (first
   |(with_reducible refine Rg.plan_pure ?_ ?_ ?_); kernel_rfl; kernel_rfl; intro _ _|(with_reducible refine Rg.plan_take ?_ ?_ ?_); kernel_rfl; kernel_rfl; intro _ _|(with_reducible refine Rg.plan_keep ?_ ?_); kernel_rfl; intro K hK|refine hK _ _ (Rg.Keep.refl _) ?_; clear hK|refine hK _ _ (Rg.Keep.of_below (by assumption)) ?_; clear hK|(with_reducible refine Rg.plan_skip ?_ ?_); kernel_rfl|(with_reducible refine Rg.plan_done ?_)|(with_reducible refine Rg.calm_normal ?_))
  clear rF2 rS rF z0 hne0
  go_loopw [37] (fun v wr => ∃ k : Nat, k ≤ 16 ∧ v = .int .i64 k ∧ row? wr BS = some (bvs (upto (addF S F) S 16 k)) ∧ row? wr BF = some (bvs F) ∧ row? wr (w.heap.size + 1 + 1) = some (bvs (zeros 16)) ∧ Below w.heap.size w wr) (fun v _ => 16 - (intOf v).toNat)
  case atStart => exact ⟨0, by omega, rfl, by rw [upto_zero _ _ _ hSl]; exact E1.out, E2.out, E3.out, zE0⟩
  case round =>
   obtain ⟨k, hk, rfl, h0, h1, h2, hb⟩ := hrel
   by_cases hlt : k < 16
   ·have g := upto_set (addF S F) S 16 k hlt
    have ghi := upto_hi (f := addF S F) (z := S) hlt (Nat.le_refl k)
    have G := Lib.hid g; clear g
    have H0 := Lib.hid h0
    have H1 := Lib.hid h1
    have H2 := Lib.hid h2
    have c0 := row?_cell h0
    have c1 := row?_cell h1
    have f0 := row?_frozen h0
    clear h0 h1 h2
    go_wp2_with fail
    refine Rg.wp_region_plan (Rg.row [(0, 3), (1, 3), (2, 0), (3, 3), (4, 3), (5, 0), (6, 3), (7, 3)] [8]) [8] (by kernel_rfl) (by kernel_rfl) ?_
    simp only [Rg.row, Rg.PT.map, List.map_cons, List.map_nil, List.getD_cons_zero, List.getD_cons_succ]
    go_wp2_with (first
     |(with_reducible refine Rg.plan_pure ?_ ?_ ?_); kernel_rfl; kernel_rfl; intro _ _|(with_reducible refine Rg.plan_take ?_ ?_ ?_); kernel_rfl; kernel_rfl; intro _ _|(with_reducible refine Rg.plan_keep ?_ ?_); kernel_rfl; intro K hK|refine hK _ _ (Rg.Keep.refl _) ?_; clear hK|refine hK _ _ (Rg.Keep.of_below (by assumption)) ?_; clear hK|(with_reducible refine Rg.plan_skip ?_ ?_); kernel_rfl|(with_reducible refine Rg.plan_done ?_)|(with_reducible refine Rg.calm_normal ?_))
    go_roundw
    case rel =>
     refine ⟨k + 1, by omega, by go_num, ?_, ?_, ?_, (hb.setCell (by show w.heap.size ≤ BS; omega) _).drew⟩
     ·rw [row?_drew, row?_setCell_eq H0.out, bvs_setn]; exact congrArg (fun l => some (bvs l)) G.out
     ·rw [row?_drew, row?_setCell_ne _ _ _ _ (fun e => NE.out e.symm)]; exact H1.out
     ·rw [row?_drew, row?_setCell_ne _ _ _ _ (by show w.heap.size + 1 + 1 ≠ BS; omega)]; exact H2.out
    case measure => simp [intOf]; omega
   ·go_wp2_with fail
    obtain rfl : k = 16 := by omega
    rw [upto_full] at h0
    have zl := hb.size
    exact ret16 (w.heap.size + 1 + 1) (bvs (add S F)) rfl rfl rfl (row?_setRow_eq h2) (by rw [bvs_size]; exact add_length _ _) ⟨by rw [hT], below_setRow hb (by omega) _⟩
end Go.Proofs.YthjbmggpleliaaaGreatDoor

end
section
namespace Go.Proofs.YthjbmggpleliaaaGreatDoor
open Go.RowKit Go.Rw Aes Gcm
attribute [local go_sem ↓] ld12 ld16 st16 al16 ldW stW alW shift_shl8 shift_shr8 shift_shl64 shift_shr64 shift_shr32 bvs_getElem? wv_0 wv_1
attribute [local go_sem] rld12 rld16 rst16 ral16 rldW rstW ralW setRow_alloc_at setRow_alloc_past setRow_drew bvs_setn wv_set0 wv_set1
set_option maxRecDepth 100000 in
set_option maxHeartbeats 1000000 in
theorem seal_any (key nonce text data : List UInt8) (hk : key.length = 16) (hn : nonce.length = 12) (ht : text.length ≤ 1000000) (hdl : data.length ≤ 1000000) (vs vd : Value) (w : World) (hs : Sl w vs text) (hd : Sl w vd data) :
  Calls Tryz.prog 135 #[.agg (bvs key), .agg (bvs nonce), vs, vd] w fun e w' =>
   ∃ g, e = .returned (.slice (some ⟨g, 0, none⟩) (text.length + 16) (text.length + 16)) ∧ w'.ownsRow w.heap.size 5 1 (.slice (some ⟨g, 0, none⟩) (text.length + 16) (text.length + 16)) (text.length + 16) ((sealed key nonce text data).map bv) ∧ Below w.heap.size w w' := by
 obtain ⟨i0, hi, hz0, hz1, hz2⟩ := info_parts info8g
 go_enter Tryz.func135, Tryz.ntmps135
 go_wp2_with fail
 refine (cipher_any key nonce text hk hn ht _ _ (hs.below (bel2a w _ _))).mono ?_
 rintro e wA ⟨g, rfl, hown, hA⟩
 have zA := hA.size
 simp at zA hown
 have a0 : row? wA w.heap.size = some (bvs key) := by rw [row?_below hA (by simp; omega)]; simp [go_sem]
 have a1 : row? wA (w.heap.size + 1) = some (bvs nonce) := by rw [row?_below hA (by simp)]; simp [go_sem]
 have ab : Below w.heap.size w wA := (bel2a w _ _).trans (hA.mono (by simp; omega))
 have hg := hown.lt g rfl
 have hso : Sl wA (.slice (some ⟨g, 0, none⟩) text.length (text.length + 16)) (enc key nonce text) := by
  have := Own.sl (l := enc key nonce text) (v := .slice (some ⟨g, 0, none⟩) text.length (text.length + 16)) (w := wA) (B := w.heap.size + 1 + 1) (e := 5) (by rw [enc_length]; exact hown)
  exact this
 clear hA
 go_wp2_with fail
 refine (tag_any key nonce (enc key nonce text) data hk hn (by rw [enc_length]; exact ht) hdl _ _ _ hso (hd.below ab)).mono ?_
 rintro e wB ⟨rfl, hB⟩
 have zB := hB.size
 have bb : Below w.heap.size w wB := ab.trans (hB.mono (by omega))
 have HO2 := Lib.hid (own_same (w' := wB.alloc (.cells (bvs (tag key nonce (enc key nonce text) data)) 66)) hown (by rw [heap_alloc_old _ _ (by omega)]; exact hB.block g (by omega)))
 have ht16 : (tag key nonce (enc key nonce text) data).length = 16 := tag_length _ _ _ _
 clear hB hown hso a0 a1
 generalize hT : tag key nonce (enc key nonce text) data = T at *
 go_wp2_with (at_builtin; refine wpList_append_fits _ rfl _ _ 22 rfl (w.heap.size + 1 + 1) 5 i0 1 Tryz.underlying22 hi hz1 g text.length (text.length + 16) _ rfl HO2.out ⟨_, 0, none⟩ 16 16 (T.map bv) rfl (by simp [ht16]) ?c1 ?c2 ?c3 ?_)
 case c1 =>
  intro j u hj
  have hjl : j < 16 := by have := (List.getElem?_eq_some_iff.1 hj).1; simpa [ht16] using this
  rw [Addr.add_lit, row?_cell (row?_alloc_at wB (bvs T) 66 _ rfl), bvs_getElem?, Nat.zero_add, if_pos (by omega), ← hj]
  simp [nth, bv, n8, show j < T.length by omega]
 case c2 => exact map_bv_one _
 case c3 => omega
 intro w2 hown2 hgrow2
 have kb : Below w.heap.size w w2 := (bb.alloc (by have := bb.size; omega) _).grown hgrow2 (by have := bb.size; simp; omega) (by intro j hj; cases hj; omega)
 have hown3 : w2.ownsRow w.heap.size 5 1 (.slice (some ⟨g, 0, none⟩) (text.length + 16) (text.length + 16)) (text.length + 16) ((sealed key nonce text data).map bv) := by
  have e : (sealed key nonce text data).map bv = (enc key nonce text).map bv ++ T.map bv := by rw [sealed, hT, List.map_append]
  rw [e]
  exact own_lower hown2 (by omega)
 clear hown2 hgrow2 HO2
 have H3 := Lib.hid hown3
 clear hown3
 go_wp2_with fail
 go_ret
 exact ⟨g, rfl, H3.out, kb⟩
end Go.Proofs.YthjbmggpleliaaaGreatDoor

end

end
section
section
namespace Aes
open Go.Rw
theorem n8_xor (a b : UInt8) : n8 (a ^^^ b) = n8 a ^^^ n8 b := UInt8.toNat_xor ..
end Aes

end
section
namespace Aes
open Go.Rw
def tms : Nat → UInt8 → UInt8 → UInt8 → UInt8
 | 0, _, _, c => c
 | f + 1, a, b, c => if b == 0 then c else tms f (double a) (shr8 b 1) (if b &&& 1 == 1 then c ^^^ a else c)
def times (a b : UInt8) : UInt8 := tms 8 a b 0
end Aes

end
section
namespace Aes
open Go.Rw
def pw : Nat → UInt8
 | 0 => 1
 | i + 1 => pw i ^^^ double (pw i)
def lgL : Nat → List UInt8
 | 0 => zeros 256
 | i + 1 => (lgL i).set (n8 (pw i)) (UInt8.ofNat i)
@[go_sem] theorem lgL_length : ∀ i, (lgL i).length = 256
 | 0 => zeros_length _
 | i + 1 => by rw [lgL, List.length_set]; exact lgL_length i
end Aes

end

end
