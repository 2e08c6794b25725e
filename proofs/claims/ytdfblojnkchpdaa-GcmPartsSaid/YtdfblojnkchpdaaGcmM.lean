/- The field of 128 bits on words and on bytes, the hash, the cipher's stream, as the program and the document compute them. No program in sight. -/
import Derived.Test.YtdfblojnkchpdaaAesM
import Derived.Test.YtdfblojnkchpdaaLibW
namespace Gcm
open Go.Rw Aes

abbrev Wd := UInt64 × UInt64
def wxor (a b : Wd) : Wd := (a.1 ^^^ b.1, a.2 ^^^ b.2)
def poly : UInt64 := UInt64.ofNat 16212958658533785600
def mulX (y : Wd) : Wd := (shr64 y.1 1 ^^^ (y.2 &&& 1) * poly, shr64 y.2 1 ||| shl64 y.1 63)
def bit (w : Wd) (i : Nat) : Bool := shr64 (if 64 ≤ i then w.2 else w.1) (63 - i % 64) &&& 1 == 1
def gstep (x : Wd) (i : Nat) (s : Wd × Wd) : Wd × Wd := (if bit x i then wxor s.1 s.2 else s.1, mulX s.2)
def grun (x y : Wd) : Nat → Wd × Wd
  | 0 => ((0, 0), y)
  | n + 1 => gstep x n (grun x y n)
def timesW (x y : Wd) : Wd := (grun x y 128).1

def ofN (b : List UInt8) : Nat → Wd
  | 0 => (0, 0)
  | k + 1 => (shl64 (ofN b k).1 8 ||| wide (nth b k), shl64 (ofN b k).2 8 ||| wide (nth b (8 + k)))
def wof (b : List UInt8) : Wd := ofN b 8
def blkF (w : Wd) (i : Nat) : UInt8 := if i < 8 then low8 (shr64 w.1 (56 - 8 * i)) else low8 (shr64 w.2 (56 - 8 * (i - 8)))
def blk (w : Wd) : List UInt8 := row16 (blkF w)
def blkUptoF (w : Wd) (k i : Nat) : UInt8 := if i % 8 < k then blkF w i else 0
def blkUpto (w : Wd) (k : Nat) : List UInt8 := row16 (blkUptoF w k)
theorem blkUpto_get {w : Wd} {k i : Nat} (h : i < 16) : nth (blkUpto w k) i = if i % 8 < k then blkF w i else 0 := row16_get h
theorem blk_get {w : Wd} {i : Nat} (h : i < 16) : nth (blk w) i = blkF w i := row16_get h
@[go_sem] theorem blk_length (w) : (blk w).length = 16 := row16_length _
@[go_sem] theorem blkUpto_length (w k) : (blkUpto w k).length = 16 := row16_length _
theorem blkUpto_zero (w) : blkUpto w 0 = zeros 16 := by
  apply ext16 (n := 16) (blkUpto_length _ _) (zeros_length _)
  intro i hi
  rw [blkUpto_get hi, nth_zeros]; simp
theorem blkUpto_full (w) : blkUpto w 8 = blk w := by
  apply ext16 (n := 16) (blkUpto_length _ _) (blk_length _)
  intro i hi
  rw [blkUpto_get hi, blk_get hi, if_pos (Nat.mod_lt _ (by decide))]
theorem blkUpto_set (w) (k : Nat) (h : k < 8) : ((blkUpto w k).set k (low8 (shr64 w.1 (56 - 8 * k)))).set (8 + k) (low8 (shr64 w.2 (56 - 8 * k))) = blkUpto w (k + 1) := by
  apply ext16 (n := 16) (by simp [blkUpto_length]) (blkUpto_length _ _)
  intro i hi
  rw [set_get _ _ _ _ (by simp [blkUpto_length]; omega), set_get _ _ _ _ (by simp [blkUpto_length]; omega), blkUpto_get hi, blkUpto_get hi]
  by_cases h1 : 8 + k = i
  · subst h1
    rw [if_pos rfl, if_pos (by omega), blkF, if_neg (by omega)]
    simp
  · rw [if_neg h1]
    by_cases h2 : k = i
    · subst h2
      rw [if_pos rfl, if_pos (by omega), blkF, if_pos h]
    · rw [if_neg h2]
      by_cases h3 : i % 8 < k
      · rw [if_pos h3, if_pos (by omega)]
      · rw [if_neg h3, if_neg (by omega)]

def times (x y : List UInt8) : List UInt8 := blk (timesW (wof x) (wof y))
@[go_sem] theorem times_length (x y) : (times x y).length = 16 := row16_length _

/-- A part's block, filled with zeros. -/
def padAt (p : List UInt8) (k : Nat) : List UInt8 := row16 fun j => nth p (16 * k + j)
@[go_sem] theorem padAt_length (p k) : (padAt p k).length = 16 := row16_length _
def hashK (key y : Wd) (p : List UInt8) : Nat → Wd
  | 0 => y
  | k + 1 => timesW (wxor (hashK key y p k) (wof (padAt p k))) key
def hashPart (key y : Wd) (p : List UInt8) : Wd := hashK key y p ((p.length + 15) / 16)
def hashParts (key : Wd) (ps : List (List UInt8)) : Wd := ps.foldl (hashPart key) (0, 0)
def hash (h : List UInt8) (ps : List (List UInt8)) : List UInt8 := blk (hashParts (wof h) ps)
@[go_sem] theorem hash_length (h ps) : (hash h ps).length = 16 := row16_length _

theorem padAt_get {p : List UInt8} {k j : Nat} (h : j < 16) : nth (padAt p k) j = nth p (16 * k + j) := row16_get h
theorem nth_drop (p : List UInt8) (a j : Nat) : nth (p.drop a) j = nth p (a + j) := by simp [nth]
theorem padAt_drop (p : List UInt8) (k : Nat) : padAt p (k + 1) = padAt (p.drop 16) k := by
  apply ext16 (n := 16) (padAt_length _ _) (padAt_length _ _)
  intro j hj
  rw [padAt_get hj, padAt_get hj, nth_drop]; congr 1; omega
theorem hashK_shift (key y : Wd) (p : List UInt8) : ∀ k, hashK key y p (k + 1) = hashK key (timesW (wxor y (wof (padAt p 0))) key) (p.drop 16) k
  | 0 => rfl
  | k + 1 => by rw [hashK, hashK_shift key y p k, padAt_drop]; rfl
theorem hashPart_nil (key y : Wd) : hashPart key y [] = y := rfl
theorem hashPart_step (key y : Wd) (p : List UInt8) (h : 0 < p.length) : hashPart key y p = hashPart key (timesW (wxor y (wof (padAt p 0))) key) (p.drop 16) := by
  unfold hashPart
  rw [show (p.length + 15) / 16 = ((p.drop 16).length + 15) / 16 + 1 by rw [List.length_drop]; omega, hashK_shift]
theorem pad_copy (q : List UInt8) : q.take 16 ++ (zeros 16).drop q.length = padAt q 0 := by
  have hz : ((zeros 16).drop q.length).length = 16 - q.length := by simp [zeros]
  apply ext16 (n := 16) (by rw [List.length_append, hz, List.length_take]; omega) (padAt_length _ _)
  intro j hj
  rw [padAt_get hj, nth_append]
  split
  · rename_i h
    rw [List.length_take] at h
    simp only [nth, List.getElem?_take, Nat.mul_zero, Nat.zero_add]
    rw [if_pos hj]
  · rename_i h
    rw [List.length_take] at h
    rw [zeros_drop, nth_zeros]
    simp only [nth, Nat.mul_zero, Nat.zero_add]
    rw [List.getElem?_eq_none (by omega)]; rfl
theorem hashParts_step (key : Wd) (ps : List (List UInt8)) (k : Nat) (h : k < ps.length) : hashParts key (ps.take (k + 1)) = hashPart key (hashParts key (ps.take k)) (ps.getD k []) := by
  unfold hashParts
  rw [List.take_add_one, List.foldl_append]
  simp [h]

/-- The counter's block. -/
def ctrF (nonce : List UInt8) (n i : Nat) : UInt8 := if i < 12 then nth nonce i else byteOf n (24 - 8 * (i - 12))
def ctr (nonce : List UInt8) (n : Nat) : List UInt8 := row16 (ctrF nonce n)
@[go_sem] theorem ctr_length (nonce n) : (ctr nonce n).length = 16 := row16_length _
def ks (key nonce : List UInt8) (i : Nat) : UInt8 := nth (block key (ctr nonce (i / 16 + 2))) (i % 16)
def encF (key nonce text : List UInt8) (i : Nat) : UInt8 := nth text i ^^^ ks key nonce i
def enc (key nonce text : List UInt8) : List UInt8 := (List.range text.length).map (encF key nonce text)
@[go_sem] theorem enc_length (key nonce text) : (enc key nonce text).length = text.length := by simp [enc]
def word (n : Nat) : UInt64 := UInt64.ofNat (8 * n)
def longs (a b : Nat) : List UInt8 := blk (word a, word b)
def tag (key nonce sealed data : List UInt8) : List UInt8 := add (hash (block key (zeros 16)) [data, sealed, longs data.length sealed.length]) (block key (ctr nonce 1))
@[go_sem] theorem tag_length (key nonce sealed data) : (tag key nonce sealed data).length = 16 := row16_length _
def sealed (key nonce text data : List UInt8) : List UInt8 := enc key nonce text ++ tag key nonce (enc key nonce text) data
@[go_sem] theorem sealed_length (key nonce text data) : (sealed key nonce text data).length = text.length + 16 := by simp [sealed, enc_length, tag_length]
/-- What bytes open to: what is wrong, and the text. -/
def opened (key nonce s data : List UInt8) : Nat × List UInt8 :=
  if s.length < 16 then (3, [])
  else if tag key nonce (s.take (s.length - 16)) data = s.drop (s.length - 16) then (0, enc key nonce (s.take (s.length - 16))) else (7, [])

theorem ctr_upto (nonce : List UInt8) (n k : Nat) (h : k < 4) : (upto (ctrF nonce n) (nonce ++ zeros 4) 16 (12 + k)).set (12 + k) (byteOf n (24 - 8 * k)) = upto (ctrF nonce n) (nonce ++ zeros 4) 16 (12 + (k + 1)) := by
  have := upto_set (ctrF nonce n) (nonce ++ zeros 4) 16 (12 + k) (by omega)
  rw [← Nat.add_assoc, ← this, ctrF, if_neg (by omega), show 12 + k - 12 = k by omega]
theorem ctr_zero (nonce : List UInt8) (n : Nat) (hn : nonce.length = 12) : upto (ctrF nonce n) (nonce ++ zeros 4) 16 12 = nonce ++ zeros 4 := by
  apply ext16 (n := 16) (upto_length ..) (by simp [hn, zeros])
  intro i hi
  rw [upto_get hi]
  split
  · rename_i h; rw [ctrF, if_pos h, nth_append, if_pos (by omega)]
  · rfl
theorem ctr_full (nonce : List UInt8) (n : Nat) : upto (ctrF nonce n) (nonce ++ zeros 4) 16 16 = ctr nonce n := upto_full ..
theorem encF_at (key nonce text : List UInt8) (i : Nat) : encF key nonce text i = nth text i ^^^ nth (block key (ctr nonce (i / 16 + 2))) (i % 16) := rfl
/-- the text enciphered, so far -/
def encTo (key nonce text : List UInt8) (k : Nat) : List UInt8 := (List.range k).map (encF key nonce text)
theorem encTo_length (key nonce text k) : (encTo key nonce text k).length = k := by simp [encTo]
theorem encTo_succ (key nonce text : List UInt8) (k : Nat) : encTo key nonce text (k + 1) = encTo key nonce text k ++ [encF key nonce text k] := by simp [encTo, List.range_succ]
theorem encTo_full (key nonce text) : encTo key nonce text text.length = enc key nonce text := rfl
/-- what differs, put together -/
def accX (T s : List UInt8) (n : Nat) : Nat → UInt8
  | 0 => 0
  | k + 1 => accX T s n k ||| (nth T k ^^^ nth s (n + k))
theorem or_zero (a b : UInt8) : a ||| b = 0 ↔ a = 0 ∧ b = 0 := by
  constructor
  · intro h
    have h' : n8 (a ||| b) = 0 := by rw [h]; rfl
    have e : n8 (a ||| b) = n8 a ||| n8 b := UInt8.toNat_or ..
    rw [e] at h'
    have z : ∀ x y : Nat, x ||| y = 0 → x = 0 := fun x y h => by
      apply Nat.eq_of_testBit_eq
      intro i
      have := congrArg (fun n => n.testBit i) h
      simp only [Nat.testBit_or, Nat.zero_testBit, Bool.or_eq_false_iff] at this
      rw [this.1, Nat.zero_testBit]
    exact ⟨n8_inj (z _ _ h'), n8_inj (z _ _ (by rw [Nat.or_comm]; exact h'))⟩
  · rintro ⟨rfl, rfl⟩; rfl
theorem xor_zero (a b : UInt8) : a ^^^ b = 0 ↔ a = b := by
  constructor
  · intro h
    have : a ^^^ b ^^^ b = b := by rw [h]; exact UInt8.zero_xor
    rw [UInt8.xor_assoc, UInt8.xor_self, UInt8.xor_zero] at this
    exact this
  · rintro rfl; exact UInt8.xor_self
theorem accX_zero (T s : List UInt8) (n : Nat) : ∀ k, accX T s n k = 0 ↔ ∀ j, j < k → nth T j = nth s (n + j)
  | 0 => by simp [accX]
  | k + 1 => by
    rw [accX, or_zero, accX_zero T s n k, xor_zero]
    constructor
    · rintro ⟨h1, h2⟩ j hj
      rcases Nat.lt_or_ge j k with h | h
      · exact h1 j h
      · rw [show j = k by omega]; exact h2
    · exact fun h => ⟨fun j hj => h j (by omega), h k (by omega)⟩
theorem accX_full (T s : List UInt8) (n : Nat) (hT : T.length = 16) (hs : s.length = n + 16) : accX T s n 16 = 0 ↔ T = s.drop n := by
  rw [accX_zero]
  constructor
  · intro h
    apply ext16 (n := 16) hT (by simp [hs])
    intro j hj
    rw [nth_drop]; exact h j hj
  · rintro rfl j hj
    rw [nth_drop]
end Gcm
