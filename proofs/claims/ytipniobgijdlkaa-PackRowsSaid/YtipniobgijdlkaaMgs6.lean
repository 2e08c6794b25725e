/- HdrW2; HdrG; HdrP. -/
import Derived.Test.YtipniobgijdlkaaMgs2
import Derived.Test.YtipniobgijdlkaaMgsLibW
import Derived.Test.YtipniobgijdlkaaMgsLibM
import Derived.Test.YtipniobgijdlkaaMgs4
import Derived.RegionTactic
import Derived.BigRegion
section
/- The walks of package header's reader: what is wrong first; so many bytes; a number of so many bytes. -/
namespace Hdr
open Go.Rw
/-- A reader's state: where it is, what is wrong. -/
def rfail (is : Bool) (x : Int) (s : Nat × Int) : Nat × Int := if is && s.2 == 0 then (s.1, x) else s
def rtake (b : List UInt8) (n : Nat) (s : Nat × Int) : (Nat × Int) × List UInt8 :=
  if s.2 ≠ 0 then (s, []) else if b.length - s.1 < n then ((s.1, 3), []) else ((s.1 + n, 0), (b.drop s.1).take n)
def rnum (b : List UInt8) (n : Nat) (s : Nat × Int) : (Nat × Int) × Nat := ((rtake b n s).1, num (rtake b n s).2)
end Hdr
namespace Go.Proofs.Ytipniobgijdlkaa
open Go.RowKit Go.Rw Hdr
/-- A reader, as it lies. -/
def rd (vb : Value) (s : Nat × Int) : Array Value := #[vb, .int .i64 (s.1 : Nat), .int .i64 s.2]
theorem rd_0 (vb s) : (rd vb s)[0]? = some vb := rfl
theorem rd_1 (vb) (s : Nat × Int) : (rd vb s)[1]? = some (.int .i64 (s.1 : Nat)) := rfl
theorem rd_2 (vb) (s : Nat × Int) : (rd vb s)[2]? = some (.int .i64 s.2) := rfl
theorem rd_set1 (vb) (s : Nat × Int) (n : Nat) : (rd vb s).setIfInBounds 1 (.int .i64 (n : Nat)) = rd vb (n, s.2) := rfl
theorem rd_set2 (vb) (s : Nat × Int) (x : Int) : (rd vb s).setIfInBounds 2 (.int .i64 x) = rd vb (s.1, x) := rfl

theorem results_none {fn : Func} (h : fn.results = #[]) (tmps : Array Value) (P : Program) (w : World) : (results fn tmps).run P w = .ok (.tuple #[]) w := by simp [results, h]

/-- The number that the first bytes tell. -/
theorem num_take_succ (l : List UInt8) (k : Nat) (h : k < l.length) : num (l.take (k + 1)) = num (l.take k) * 256 + n8 (nth l k) := by
  unfold num nth
  rw [List.take_add_one, List.foldl_append, List.getElem?_eq_getElem h]
  rfl
theorem fold_lt : ∀ (l : List UInt8) (x : Nat), l.foldl (fun n c => n * 256 + n8 c) x < (x + 1) * 256 ^ l.length
  | [], x => by simp
  | c :: l, x => by
    have h := fold_lt l (x * 256 + n8 c)
    have hc := n8_lt c
    rw [List.foldl_cons, List.length_cons, Nat.pow_succ]
    refine Nat.lt_of_lt_of_le h ?_
    rw [Nat.mul_comm (256 ^ l.length) 256, ← Nat.mul_assoc]
    exact Nat.mul_le_mul_right _ (by omega)
theorem num_lt (l : List UInt8) : num l < 256 ^ l.length := by
  have := fold_lt l 0
  simpa [num] using this
theorem num_step (x : Nat) (c : UInt8) (h : x < 72057594037927936) : n64 (shl64 (UInt64.ofNat x) 8 ||| Go.Rw.wide c) = x * 256 + n8 c := by
  have hc := n8_lt c
  have e1 : (shl64 (UInt64.ofNat x) 8).toNat = x <<< 8 := by rw [← n64, n64_shl64, n64_ofNat _ (by omega), Nat.shiftLeft_eq]; omega
  have e3 : (Go.Rw.wide c).toNat = n8 c := by rw [← n64, n64_wide]
  show (shl64 (UInt64.ofNat x) 8 ||| Go.Rw.wide c).toNat = _
  rw [UInt64.toNat_or, e1, e3, ← Nat.shiftLeft_add_eq_or_of_lt (by omega), Nat.shiftLeft_eq]
attribute [local go_sem ↓] shift_shl64

end Go.Proofs.Ytipniobgijdlkaa
end
section
/- How a header is read, in plain words: the program's way, the document's way, and that both tell the same. No condition. -/
namespace Hdr
open Go.Rw
/-- A header's parts. -/
structure Hd where
  long : Bool
  kind : Int
  ver : Nat
  dst : List UInt8
  src : List UInt8
  tok : List UInt8
  spin : Bool
  phase : Bool
  num : Nat
  nl : Int
def hd0 : Hd := ⟨false, 0, 0, [], [], [], false, false, 0, 0⟩
/-- A number that tells its own length. -/
def vmany (c : UInt8) : Nat := 2 ^ (n8 c / 64)
def vnum (l : List UInt8) : Nat := ((l.take (vmany (nth l 0))).drop 1).foldl (fun n c => n * 256 + n8 c) (n8 (nth l 0) % 64)
def vget (l : List UInt8) : Nat × Nat × Int := if l.length = 0 ∨ l.length < vmany (nth l 0) then (0, 0, 3) else (vnum l, vmany (nth l 0), 0)
theorem vmany_pos (c : UInt8) : 1 ≤ vmany c := Nat.one_le_two_pow
theorem vmany_le (c : UInt8) : vmany c ≤ 8 := by
  have h := n8_lt c
  have : n8 c / 64 ≤ 3 := by omega
  exact Nat.le_trans (Nat.pow_le_pow_right (by decide) this) (by decide)
theorem vget_many (l : List UInt8) : (vget l).2.1 ≤ l.length := by
  unfold vget; split <;> simp; omega
theorem vget_many8 (l : List UInt8) : (vget l).2.1 ≤ 8 := by
  unfold vget; split <;> simp; exact vmany_le _
/-- The program's way, piece by piece; a state is where one is, and what is wrong first. -/
def rvar (b : List UInt8) (s : Nat × Int) : (Nat × Int) × Nat :=
  if s.2 ≠ 0 then (s, 0) else ((s.1 + (vget (b.drop s.1)).2.1, (vget (b.drop s.1)).2.2), (vget (b.drop s.1)).1)
def rid (b : List UInt8) (least most : Nat) (s : Nat × Int) : (Nat × Int) × List UInt8 :=
  rtake b (rnum b 1 s).2 (rfail (decide ((rnum b 1 s).2 < least) || decide (most < (rnum b 1 s).2)) 5 (rnum b 1 s).1)
def aKind (kind : Int) (s : Nat × Int) : Nat × Int := rfail (decide (kind ≠ 0) && decide (kind ≠ 2)) 5 s
def aVer (b : List UInt8) (kind : Int) (s : Nat × Int) := rnum b 4 (aKind kind s)
def aDst (b : List UInt8) (kind : Int) (s : Nat × Int) := rid b 8 8 (aVer b kind s).1
def aSrc (b : List UInt8) (kind : Int) (s : Nat × Int) := rid b 0 20 (aDst b kind s).1
def aTokN (b : List UInt8) (kind : Int) (s : Nat × Int) := rvar b (aSrc b kind s).1
def aTok (b : List UInt8) (kind : Int) (s : Nat × Int) : (Nat × Int) × List UInt8 :=
  if kind = 0 then rtake b (min (aTokN b kind s).2 100) (rfail (decide (100 < (aTokN b kind s).2)) 5 (aTokN b kind s).1) else ((aSrc b kind s).1, [])
def aRest (b : List UInt8) (kind : Int) (s : Nat × Int) := rvar b (aTok b kind s).1
def lNum (b : List UInt8) (kind : Int) (nl : Nat) (s : Nat × Int) := rnum b nl (rfail (decide ((aRest b kind s).2 < nl)) 5 (aRest b kind s).1)
def lEnd (b : List UInt8) (kind : Int) (nl : Nat) (s : Nat × Int) : (Nat × Int) × Nat :=
  if (lNum b kind nl s).1.2 ≠ 0 then ((lNum b kind nl s).1, 0)
  else (rfail (decide (b.length - (lNum b kind nl s).1.1 < (aRest b kind s).2 - nl)) 3 (lNum b kind nl s).1, min ((aRest b kind s).2 - nl) b.length)
def gByte (b : List UInt8) : UInt8 := UInt8.ofNat (rnum b 1 (0, 0)).2
def gFirst (b : List UInt8) : Nat × Int := rfail (gByte b &&& 64 == 0) 5 (rnum b 1 (0, 0)).1
def gKind (b : List UInt8) : Int := (n8 (gByte b) / 16 % 4 : Nat)
def gNl (b : List UInt8) : Nat := n8 (gByte b &&& 3) + 1
def gShort (b : List UInt8) : (Nat × Int) × List UInt8 := rtake b 8 (rfail (gByte b &&& 24 != 0) 5 (gFirst b))
def gShortN (b : List UInt8) : (Nat × Int) × Nat := rnum b (gNl b) (gShort b).1
def gLong (b : List UInt8) : Nat × Int := rfail (gByte b &&& 12 != 0) 5 (gFirst b)
/-- What the reader ends in, the header, and how many bytes are behind it. -/
def gAll (b : List UInt8) : (Nat × Int) × Hd × Nat :=
  if (gByte b &&& 128 != 0) = true then
    ((lEnd b (gKind b) (gNl b) (gLong b)).1, ⟨true, gKind b, (aVer b (gKind b) (gLong b)).2, (aDst b (gKind b) (gLong b)).2, (aSrc b (gKind b) (gLong b)).2, (aTok b (gKind b) (gLong b)).2, false, false, (lNum b (gKind b) (gNl b) (gLong b)).2, gNl b⟩, (lEnd b (gKind b) (gNl b) (gLong b)).2)
  else ((gShortN b).1, ⟨false, 0, 0, (gShort b).2, [], [], gByte b &&& 32 != 0, gByte b &&& 4 != 0, (gShortN b).2, gNl b⟩, b.length - (gShortN b).1.1)
def get (b : List UInt8) : Hd × Nat × Nat × Int :=
  if (gAll b).1.2 ≠ 0 then (hd0, 0, 0, (gAll b).1.2) else ((gAll b).2.1, (gAll b).1.1, (gAll b).2.2, 0)

/-- The document's way. -/
def lPart (b : List UInt8) (at_ : Nat) (eight : Bool) : Except Int (List UInt8 × Nat) :=
  if b.length ≤ at_ then .error 3
  else if (eight = true ∧ n8 (nth b at_) ≠ 8) ∨ 20 < n8 (nth b at_) then .error 5
  else if b.length < at_ + 1 + n8 (nth b at_) then .error 3
  else .ok ((b.drop (at_ + 1)).take (n8 (nth b at_)), at_ + 1 + n8 (nth b at_))
def lTok (b : List UInt8) (kind : Nat) (at_ : Nat) : Except Int (List UInt8 × Nat) :=
  if kind ≠ 0 then .ok ([], at_)
  else if (vget (b.drop at_)).2.2 ≠ 0 then .error (vget (b.drop at_)).2.2
  else if 100 < (vget (b.drop at_)).1 then .error 5
  else if b.length < at_ + (vget (b.drop at_)).2.1 + (vget (b.drop at_)).1 then .error 3
  else .ok ((b.drop (at_ + (vget (b.drop at_)).2.1)).take (vget (b.drop at_)).1, at_ + (vget (b.drop at_)).2.1 + (vget (b.drop at_)).1)
def lTail (b : List UInt8) (h : Hd) (at_ : Nat) : Except Int (Hd × Nat × Nat) :=
  if (vget (b.drop at_)).2.2 ≠ 0 then .error (vget (b.drop at_)).2.2
  else .ok (h, at_ + (vget (b.drop at_)).2.1, min (vget (b.drop at_)).1 1073741824)
def lead (b : List UInt8) (masked : Bool) : Except Int (Hd × Nat × Nat) :=
  if b.length = 0 then .error 3
  else if nth b 0 &&& 64 = 0 then .error 5
  else if nth b 0 &&& 128 = 0 then
    if nth b 0 &&& 24 ≠ 0 ∧ masked = false then .error 5
    else if b.length < 9 then .error 3
    else .ok (⟨false, 0, 0, (b.drop 1).take 8, [], [], nth b 0 &&& 32 != 0, nth b 0 &&& 4 != 0, 0, (n8 (nth b 0 &&& 3) + 1 : Nat)⟩, 9, b.length - 9)
  else if n8 (nth b 0) / 16 % 4 % 2 = 1 ∨ (nth b 0 &&& 12 ≠ 0 ∧ masked = false) then .error 5
  else if b.length < 5 then .error 3
  else match lPart b 5 true with
    | .error e => .error e
    | .ok (d, at1) => match lPart b at1 false with
      | .error e => .error e
      | .ok (s, at2) => match lTok b (n8 (nth b 0) / 16 % 4) at2 with
        | .error e => .error e
        | .ok (t, at3) => lTail b ⟨true, (n8 (nth b 0) / 16 % 4 : Nat), num ((b.drop 1).take 4), d, s, t, false, false, 0, (n8 (nth b 0 &&& 3) + 1 : Nat)⟩ at3
def rget (b : List UInt8) : Hd × Nat × Nat × Int :=
  match lead b false with
  | .error e => (hd0, 0, 0, e)
  | .ok (h, at_, told) =>
    if h.long = true ∧ (told : Int) < h.nl then (hd0, 0, 0, 5)
    else if b.length < at_ + h.nl.toNat then (hd0, 0, 0, 3)
    else if b.length < at_ + told then (hd0, 0, 0, 3)
    else ({ h with num := num ((b.drop at_).take h.nl.toNat) }, at_ + h.nl.toNat, told - h.nl.toNat, 0)

/-- Once something is wrong, it stays as it is. -/
theorem rfail_bad {is : Bool} {x : Int} {s : Nat × Int} (h : s.2 ≠ 0) : rfail is x s = s := by simp [rfail, h]
theorem rfail_ok {x : Int} {s : Nat × Int} : rfail false x s = s := by simp [rfail]
theorem rfail_yes {x : Int} {at_ : Nat} : rfail true x (at_, 0) = (at_, x) := by simp [rfail]
theorem rtake_bad {b n} {s : Nat × Int} (h : s.2 ≠ 0) : rtake b n s = (s, []) := by simp [rtake, h]
theorem rnum_bad {b n} {s : Nat × Int} (h : s.2 ≠ 0) : rnum b n s = (s, 0) := by simp [rnum, rtake_bad h, num]
theorem rvar_bad {b} {s : Nat × Int} (h : s.2 ≠ 0) : rvar b s = (s, 0) := by simp [rvar, h]
theorem rid_bad {b l m} {s : Nat × Int} (h : s.2 ≠ 0) : rid b l m s = (s, []) := by
  unfold rid; rw [rnum_bad h, rfail_bad h, rtake_bad h]
theorem rtake_short {b : List UInt8} {n at_ : Nat} (h : b.length - at_ < n) : rtake b n (at_, 0) = ((at_, 3), []) := by simp [rtake, h]
theorem rtake_ok {b : List UInt8} {n at_ : Nat} (h : n ≤ b.length - at_) : rtake b n (at_, 0) = ((at_ + n, 0), (b.drop at_).take n) := by
  unfold rtake; rw [if_neg (by simp), if_neg (by simp only []; omega)]
theorem rnum_short {b : List UInt8} {n at_ : Nat} (h : b.length - at_ < n) : rnum b n (at_, 0) = ((at_, 3), 0) := by simp [rnum, rtake_short h, num]
theorem rnum_ok {b : List UInt8} {n at_ : Nat} (h : n ≤ b.length - at_) : rnum b n (at_, 0) = ((at_ + n, 0), num ((b.drop at_).take n)) := by simp [rnum, rtake_ok h]
theorem take1 {b : List UInt8} {at_ : Nat} (h : at_ < b.length) : (b.drop at_).take 1 = [nth b at_] := by
  rw [List.drop_eq_getElem_cons h, List.take_succ_cons, List.take_zero]; simp [nth, h]
theorem rnum1 {b : List UInt8} {at_ : Nat} (h : at_ < b.length) : rnum b 1 (at_, 0) = ((at_ + 1, 0), n8 (nth b at_)) := by
  rw [rnum_ok (by omega), take1 h]; simp [num]
/-- What comes of a part, in both ways. -/
theorem rid_part (b : List UInt8) (at_ : Nat) (eight : Bool) :
    match lPart b at_ eight with
    | .error e => e ≠ 0 ∧ (rid b (if eight then 8 else 0) (if eight then 8 else 20) (at_, 0)).1.2 = e
    | .ok (d, at1) => rid b (if eight then 8 else 0) (if eight then 8 else 20) (at_, 0) = ((at1, 0), d) := by
  unfold lPart rid
  by_cases h : b.length ≤ at_
  · rw [if_pos h, rnum_short (by omega), rfail_bad (by simp), rtake_bad (by simp)]
    exact ⟨by decide, rfl⟩
  · rw [if_neg h, rnum1 (by omega)]
    by_cases h2 : (eight = true ∧ n8 (nth b at_) ≠ 8) ∨ 20 < n8 (nth b at_)
    · rw [if_pos h2]
      have e : (decide (n8 (nth b at_) < if eight = true then 8 else 0) || decide ((if eight = true then 8 else 20) < n8 (nth b at_))) = true := by
        cases eight <;> simp at h2 ⊢ <;> omega
      rw [e, rfail_yes, rtake_bad (by simp)]
      exact ⟨by decide, rfl⟩
    · rw [if_neg h2]
      have e : (decide (n8 (nth b at_) < if eight = true then 8 else 0) || decide ((if eight = true then 8 else 20) < n8 (nth b at_))) = false := by
        cases eight <;> simp at h2 ⊢ <;> omega
      rw [e, rfail_ok]
      by_cases h3 : b.length < at_ + 1 + n8 (nth b at_)
      · rw [if_pos h3, rtake_short (by omega)]
        exact ⟨by decide, rfl⟩
      · rw [if_neg h3, rtake_ok (by omega)]
theorem rvar_ok {b : List UInt8} {at_ : Nat} (h : (vget (b.drop at_)).2.2 = 0) : rvar b (at_, 0) = ((at_ + (vget (b.drop at_)).2.1, 0), (vget (b.drop at_)).1) := by
  unfold rvar; rw [if_neg (by simp)]; simp only [h]
theorem rvar_fail {b : List UInt8} {at_ : Nat} (_h : (vget (b.drop at_)).2.2 ≠ 0) : (rvar b (at_, 0)).1.2 = (vget (b.drop at_)).2.2 := by
  unfold rvar; rw [if_neg (by simp)]
end Hdr
end
section
/- The walk of package header's May, and the document's, at any header. -/
namespace Hdr
open Go.Rw
/-- May a header be? -/
def may (h : Hd) : Bool :=
  if h.nl < 1 ∨ 4 < h.nl ∨ 4611686018427387903 < h.num ∨ h.dst.length ≠ 8 then false
  else if h.long = false then decide (h.kind = 0 ∧ h.ver = 0 ∧ h.src.length = 0 ∧ h.tok.length = 0)
  else decide ((h.kind = 0 ∨ (h.kind = 2 ∧ h.tok.length = 0)) ∧ h.src.length ≤ 20 ∧ h.tok.length ≤ 100 ∧ h.spin = false ∧ h.phase = false)
def mayN (long : Bool) (kind : Int) (ver : Nat) (dl sl tl : Nat) (spin phase : Bool) (num : Nat) (nl : Int) : Bool :=
  if nl < 1 ∨ 4 < nl ∨ 4611686018427387903 < num ∨ dl ≠ 8 then false
  else if long = false then decide (kind = 0 ∧ ver = 0 ∧ sl = 0 ∧ tl = 0)
  else decide ((kind = 0 ∨ (kind = 2 ∧ tl = 0)) ∧ sl ≤ 20 ∧ tl ≤ 100 ∧ spin = false ∧ phase = false)
theorem may_eq (h : Hd) : may h = mayN h.long h.kind h.ver h.dst.length h.src.length h.tok.length h.spin h.phase h.num h.nl := rfl
end Hdr
namespace Go.Proofs.Ytipniobgijdlkaa
open Go.RowKit Go.Rw Hdr
set_option maxRecDepth 20000 in
set_option maxHeartbeats 4000000 in
theorem may_any (long : Bool) (kind : Int) (ver : Nat) (ad as_ at_ : Option Addr) (dl sl tl cd cs ct : Nat) (spin phase : Bool) (num : Nat) (nl : Int) (w : World) :
    Calls Try.prog 44 #[.agg (hvA long kind ver (.slice ad dl cd) (.slice as_ sl cs) (.slice at_ tl ct) spin phase num nl)] w fun e w' => e = .returned (.bool (mayN long kind ver dl sl tl spin phase num nl)) ∧ Below w.heap.size w w' := by
  unfold hvA
  obtain ⟨m, hm⟩ : ∃ m, mayN long kind ver dl sl tl spin phase num nl = m := ⟨_, rfl⟩
  rw [hm]
  unfold mayN at hm
  have HM := Lib.hid hm
  clear hm
  by_cases h4 : dl = 8
  · subst h4
    cases long
    all_goals go_enter Try.func44, Try.ntmps44
    all_goals go_wp2_with fail
    all_goals go_ret
    all_goals refine ⟨?_, (Below.refl _ _).alloc (Nat.le_refl _) _⟩
    all_goals rw [← HM.out]
    all_goals refine congrArg (fun x => Ending.returned (Value.bool x)) ?_
    all_goals clear HM
    all_goals split
    all_goals try split
    all_goals first
      | contradiction
      | exact absurd trivial (by assumption)
      | rfl
      | (exfalso; omega)
      | (cases spin <;> cases phase <;> first | contradiction | (exfalso; omega) | (refine Bool.eq_iff_iff.2 ?_; simp only [decide_eq_true_eq, Bool.false_eq_true, Bool.true_eq_false, Bool.not_true, Bool.not_false, beq_iff_eq, and_true, and_false, true_iff, false_iff] <;> omega) | rfl)
      | skip
  have h4' : (((dl : Nat) : Int) != 8) = true := by simpa using (by omega : (dl : Int) ≠ 8)
  all_goals go_enter Try.func44, Try.ntmps44
  all_goals go_wp2_with fail
  all_goals go_ret
  all_goals refine ⟨?_, (Below.refl _ _).alloc (Nat.le_refl _) _⟩
  all_goals rw [← HM.out]
  all_goals refine congrArg (fun x => Ending.returned (Value.bool x)) ?_
  all_goals clear HM
  all_goals split
  all_goals try split
  all_goals first
    | contradiction
    | exact absurd trivial (by assumption)
    | rfl
    | (exfalso; omega)
    | (cases spin <;> cases phase <;> first | contradiction | (exfalso; omega) | (refine Bool.eq_iff_iff.2 ?_; simp only [decide_eq_true_eq, Bool.false_eq_true, Bool.true_eq_false, Bool.not_eq_true', Bool.not_true, Bool.not_false, beq_iff_eq, reduceCtorEq, and_true, and_false, true_and, false_and, iff_true, iff_false, true_iff, false_iff] <;> omega) | rfl)
    | skip
end Go.Proofs.Ytipniobgijdlkaa
end
