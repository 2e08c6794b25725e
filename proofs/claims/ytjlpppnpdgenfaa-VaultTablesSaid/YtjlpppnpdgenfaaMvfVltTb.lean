/- The walk of VaultTables. -/
import Derived.Test.YtjlpppnpdgenfaaMvbVltT
import Derived.Test.YtjlpppnpdgenfaaMvb23
import Derived.Test.YtjlpppnpdgenfaaMvf0
import Derived.Test.YtjlpppnpdgenfaaMvb2
import Derived.Test.YtjlpppnpdgenfaaMvbLibM
namespace Vlt
open Go Go.Rw
def idl (c : Nat) : List Int := (List.range c).map fun k => ((k + 1 : Nat) : Int)
theorem idl_length (c : Nat) : (idl c).length = c := by simp [idl]
theorem idl_next (c : Nat) : idl c ++ [((c + 1 : Nat) : Int)] = idl (c + 1) := by simp [idl, List.range_succ]
theorem idl_ni (c k : Nat) (h : k < c) : ni (idl c) k = ((k + 1 : Nat) : Int) := by simp [ni, idl, h]
end Vlt
namespace Go.Proofs.Ytjlpppnpdgenfaa
open Go.RowKit Go.Rw Aes Hdr Vlt
theorem infoI : (Try.prog.info? 3).map (fun i => (i.zero, i.size, i.bytes)) = some (some (.int .i64 0), 1, 8) := by kernel_rfl
theorem padded_nth (l : List UInt8) (A n k : Nat) (hk : k < n) : nth (padded (l.drop A) n) k = if A + k < l.length then nth l (A + k) else 0 := by
 unfold padded nth
 by_cases h : A + k < l.length
 ·rw [if_pos h, List.getElem?_append_left (by simp; omega), List.getElem?_take, if_pos hk, List.getElem?_drop]
 ·rw [if_neg h, List.getElem?_append_right (by simp; omega)]
  rw [List.getElem?_replicate]
  split <;> rfl
theorem own_alloc_int {w : World} {B : Nat} {v : Option Addr} {c n : Nat} {o : Obj} (h : w.ownsRow B 3 1 (.slice v c n) (idl c).length ((idl c).map iv)) : (w.alloc o).ownsRow B 3 1 (.slice v c n) (idl c).length ((idl c).map iv) := h.alloc _
structure TbRel (l : List UInt8) (B N0 : Nat) (vm : Value) (w : World) (A c : Nat) (vo ids : Value) (wr : World) : Prop where
 hA : A ≤ l.length
 given : wr.ownsRow N0 3 1 ids (idl c).length ((idl c).map iv)
 row : row? wr B = some (tbA vo (c : Nat) vm)
 left : Sl wr vo (l.drop A)
 ne : ∀ b off n cap, vo = .slice (some ⟨b, off, none⟩) n cap → 0 < n → b ≠ B ∧ b < N0
 bw : Below w.heap.size w wr
 sz : N0 ≤ wr.heap.size
set_option maxRecDepth 100000 in
set_option maxHeartbeats 8000000 in
theorem vtables_any (l : List UInt8) (xs : List Int) (v vs : Value) (w : World) (hs : Sl w v l) (hx : Si w vs xs) :
  Calls Try.prog 5 #[v, vs] w fun e w' => e = .returned (.bool true) ∧ Below w.heap.size w w' := by
 obtain ⟨av, cv, rfl, -, -, -⟩ := id hs
 obtain ⟨as_, cs, rfl, -, -, hp⟩ := id hx
 obtain ⟨i0, hi, hz0, hz1, hz2⟩ := info_parts infoI
 have HS := Lib.hid hs
 have HP := Lib.hid hp
 clear hs hx hp
 go_enter Try.func5, Try.ntmps5
 by_cases g1 : (300 : Int) < (l.length : Nat)
 ·go_wp2_with fail
  refine (awake_any _).mono ?_
  rintro e w5 ⟨rfl, b5⟩
  go_wp2_with fail
  go_ret
  exact ⟨rfl, b5⟩
 by_cases g2 : (20 : Int) < (xs.length : Nat)
 ·go_wp2_with fail
  refine (awake_any _).mono ?_
  rintro e w5 ⟨rfl, b5⟩
  go_wp2_with fail
  go_ret
  exact ⟨rfl, b5⟩
 have HL := Lib.hid (show l.length ≤ 300 ∧ xs.length ≤ 20 by omega)
 go_wp2_with fail
 clear g1 g2
 refine (copied_any l (by have := HL.out; omega) _ w HS.out).mono ?_
 rintro e w1 ⟨vi, rfl, oi, b1⟩
 go_wp2_with fail
 refine (newtable_any l (by have := HL.out; omega) vi w1 (Own.sl oi)).mono ?_
 rintro e w2 ⟨B, vo, vm, rfl, hB, hrow, hov, hovB, b2⟩
 go_wp2_with fail
 refine (over_any l (by have := HL.out; omega) vi w.heap.size w2 (Nat.le_trans b1.size b2.size) (own_below b2 oi)).mono ?_
 rintro e w3 ⟨rfl, g3⟩
 have hvi : ∀ k, vi.ownBlock = some k → w.heap.size ≤ k ∧ k < w1.heap.size := fun k hk => oi.lt k hk
 have hrow3 : row? w3 B = some (tbA vo (0 : Nat) vm) := row_grown g3 hrow (fun e => by have := hvi _ e.symm; omega)
 have hov3 := own_grown hov g3 (fun k hk e => by have := hvi k e.symm; have := (hov.lt k hk).1; omega)
 have bw3 : Below w.heap.size w w3 := (b1.trans (b2.mono b1.size)).grown g3 (by have := b1.size; have := b2.size; omega) (fun k hk => (hvi k hk).1)
 have hne3 : ∀ b off n cap, vo = .slice (some ⟨b, off, none⟩) n cap → 0 < n → b ≠ B ∧ b < w3.heap.size := fun b off n cap e _ => by
  have := hovB b (by rw [e]; rfl)
  have := row?_lt hrow3
  omega
 have hBlt := row?_lt hrow3
 have hBw : w.heap.size ≤ B := by have := b1.size; omega
 have R0 : TbRel l B w3.heap.size vm w 0 0 vo (.slice none 0 0) w3 := ⟨Nat.zero_le _, World.ownsRow_nil _ _ _ _, hrow3, by rw [List.drop_zero]; exact Own.sl hov3, hne3, bw3, Nat.le_refl _⟩
 have R1 := Lib.hid R0
 have HBB := Lib.hid (And.intro hBlt hBw)
 clear oi b1 b2 hB hrow hov hovB g3 hvi hrow3 hov3 bw3 hne3 hBlt hBw R0
 generalize hN0 : w3.heap.size = N0 at R1 HBB
 have HN0 := Lib.hid hN0
 clear hN0
 go_wp2_with fail
 go_loopw [7, 8, 9] (fun a ids i wr => ∃ (A c n : Nat) (vo : Value), n ≤ xs.length ∧ i = .int .i64 n ∧ a = .int .i64 A ∧ c ≤ n ∧ TbRel l B N0 vm w A c vo ids wr) (fun _ _ i _ => xs.length - (intOf i).toNat)
 case atStart => exact ⟨0, 0, 0, vo, by omega, rfl, rfl, by omega, R1.out⟩
 case round =>
  obtain ⟨A, c, n, vo1, hn, rfl, rfl, hc, hR⟩ := hrel
  have RR := Lib.hid hR
  clear hR
  by_cases hlt : n < xs.length
  ·have HN := Lib.hid (And.intro hlt hc)
   have hn20 : n < 20 := by have := HL.out; omega
   obtain ⟨bx, off, rfl, hcell⟩ := HP.out (by omega)
   have c1 := below_cell RR.out.bw (hcell n hlt) (cell_lt (hcell n hlt))
   have HC := Lib.hid (hcell n hlt)
   clear hcell
   generalize ni xs n = x at c1 HC
   by_cases hx1 : 2000 < x
   ·go_wp2_with fail
    refine (tseal_no B x (.inr hx1) _).mono ?_
    rintro e w' ⟨rfl, rfl⟩
    go_wp2_with fail
    go_roundw
    case rel => exact ⟨A, c, n + 1, vo1, by have := HN.out; omega, by go_num, rfl, by have := HN.out; omega, RR.out⟩
    case measure => have := HN.out; simp [intOf]; omega
   by_cases hx2 : x < 0
   ·go_wp2_with fail
    refine (tseal_no B x (.inl hx2) _).mono ?_
    rintro e w' ⟨rfl, rfl⟩
    go_wp2_with fail
    go_roundw
    case rel => exact ⟨A, c, n + 1, vo1, by have := HN.out; omega, by go_num, rfl, by have := HN.out; omega, RR.out⟩
    case measure => have := HN.out; simp [intOf]; omega
   obtain ⟨k, rfl⟩ : ∃ k : Nat, x = k := ⟨x.toNat, by omega⟩
   have HK := Lib.hid (show k ≤ 2000 by omega)
   go_wp2_with fail
   clear hx1 hx2 c1
   refine (tseal_any B k HK.out (l.drop A) (by have := HL.out; simp; omega) vo1 vm c (by have := HL.out; omega) wr RR.out.row RR.out.left (fun b off n cap e h => (RR.out.ne b off n cap e h).1)).mono ?_
   rintro e w4 ⟨vb, vo2, rfl, ob, hrow4, hsl4, hsub, hm⟩
   have bw4 : Below w.heap.size w w4 := RR.out.bw.trans (hm.below HBB.out.2 RR.out.bw.size)
   have gi := own_grown RR.out.given (r := some B) ⟨hm.os, hm.tape, hm.output, hm.size, fun q hq hne => hm.block q hq (fun e => hne (by rw [e]))⟩ (fun q hq e => by have := (RR.out.given.lt q hq).1; have := HBB.out.1; injection e; omega)
   have ob' : w4.ownsRow wr.heap.size 5 1 vb (padded (l.drop A) k).length ((padded (l.drop A) k).map bv) := by rw [padded_length]; exact ob
   obtain ⟨ab, cb, hvb, -, -, hpb⟩ := Own.sl ob'
   rw [padded_length] at hvb hpb
   subst hvb
   obtain ⟨ai, ci, hids, -, -, hpi⟩ := Own.si gi
   rw [idl_length] at hids hpi
   subst hids
   have hidb : ∀ q, (Value.slice ai c ci).ownBlock = some q → N0 ≤ q ∧ q < wr.heap.size := fun q hq => RR.out.given.lt q hq
   obtain ⟨d, hd⟩ : ∃ d, c + 1 = d := ⟨_, rfl⟩
   rw [hd] at hrow4 ⊢
   have HD := Lib.hid hd
   have hne2 : ∀ b off n cap, vo2 = .slice (some ⟨b, off, none⟩) n cap → 0 < n → b ≠ B ∧ b < N0 := fun b off n cap e h => by
    obtain ⟨off', n', cap', e', h'⟩ := hsub b off n cap e h
    exact RR.out.ne b off' n' cap' e' h'
   have NE2 := Lib.hid hne2
   have OB := Lib.hid ob'
   have GI := Lib.hid gi
   have IDB := Lib.hid hidb
   have ROW := Lib.hid hrow4
   have LEFT := Lib.hid hsl4
   have HPB := Lib.hid hpb
   have HPI := Lib.hid hpi
   have BW := Lib.hid bw4
   have SZ := Lib.hid hm.size
   have c1 := below_cell bw4 HC.out (cell_lt HC.out)
   have hd1 : ¬ ((d : Nat) : Int) < 1 := by omega
   clear hd hne2 ob ob' gi hidb hrow4 hsl4 hpb hpi bw4 hm hsub
   go_wp2_with fail
   clear c1 hd1
   go_loopw [14] (fun v wi => ∃ q : Nat, q ≤ k ∧ v = .int .i64 q ∧ wi = w4) (fun v _ => k - (intOf v).toNat)
   case atStart => exact ⟨0, by omega, rfl, rfl⟩
   case round =>
    obtain ⟨q, hq, rfl, hwi⟩ := hrel
    subst hwi
    by_cases hqk : q < k
    ·have hq2k : q < 2000 := by have := HK.out; omega
     obtain ⟨b2, o2, rfl, hc2⟩ := HPB.out (by omega)
     have cb2 := hc2 q hqk
     have hpn := padded_nth l A k q hqk
     clear hc2
     obtain ⟨J, hJ⟩ : ∃ J, A + q = J := ⟨_, rfl⟩
     have hwJ : wrap64 ((J : Nat) : Int) = (J : Nat) := by have := HL.out; have := RR.out.hA; have := HK.out; unfold wrap64; omega
     have eJ : (A : Int) + (q : Int) = (J : Nat) := by omega
     rw [hJ] at hpn
     clear hJ
     by_cases hJl : J < l.length
     ·rw [if_pos hJl] at hpn
      rw [hpn] at cb2
      obtain ⟨a0, c0, e0, -, -, hp0⟩ := id HS.out
      cases e0
      obtain ⟨b0, o0, rfl, hc0⟩ := hp0 (by omega)
      have cJ := below_cell BW.out (hc0 J hJl) (cell_lt (hc0 J hJl))
      have hJi : ((J : Nat) : Int) < (l.length : Nat) := by omega
      clear hp0 hc0 hpn
      generalize nth l J = y at cb2 cJ
      go_wp2_with fail
      go_roundw
      case rel => exact ⟨q + 1, by omega, by go_num, trivial⟩
      case measure => simp [intOf]; omega
     ·rw [if_neg hJl] at hpn
      rw [hpn] at cb2
      have cb3 : wr.cell? ⟨b2, o2 + q, none⟩ = some (.int .u8 0) := cb2
      have hJi : ¬ ((J : Nat) : Int) < (l.length : Nat) := by omega
      clear hpn cb2
      go_wp2_with fail
      go_roundw
      case rel => exact ⟨q + 1, by omega, by go_num, trivial⟩
      case measure => simp [intOf]; omega
    ·obtain rfl : q = k := by omega
     go_wp2_with fail
     go_loopw [16] (fun v wi2 => ∃ q2 : Nat, q2 ≤ c ∧ v = .int .i64 q2 ∧ wi2 = wr) (fun v _ => c - (intOf v).toNat)
     case atStart => exact ⟨0, by omega, rfl, rfl⟩
     case round =>
      obtain ⟨q2, hq2, rfl, hwi⟩ := hrel
      subst hwi
      by_cases hqc : q2 < c
      ·have hq20 : q2 < 20 := by have := HL.out; have := HN.out; omega
       obtain ⟨b3, o3, rfl, hc3⟩ := HPI.out (by omega)
       have ci3 := hc3 q2 hqc
       rw [idl_ni c q2 hqc] at ci3
       obtain ⟨e2, he2⟩ : ∃ e2, q2 + 1 = e2 := ⟨_, rfl⟩
       rw [he2] at ci3
       have hne3 : (((e2 : Nat) : Int) == ((d : Nat) : Int)) = false := by have := HD.out; simp; omega
       clear hc3 he2
       go_wp2_with fail
       go_roundw
       case rel => exact ⟨q2 + 1, by omega, by go_num, trivial⟩
       case measure => simp [intOf]; omega
      ·obtain rfl : q2 = c := by omega
       go_wp2_with (at_builtin; refine Classical.byContradiction ?_)
       intro hh; apply hh; clear hh
       refine app_si2 rfl _ _ 48 rfl N0 3 i0 Try.underlying48 hi hz0 hz1 hz2 (.slice ai q2 ci) (idl q2) rfl (own_alloc_int GI.out) wr.heap.size 1 [((d : Nat) : Int)] rfl ?hu ?hlen ?hbase ?_
       case hu =>
        intro k hk
        obtain rfl : k = 0 := by simp at hk; omega
        exact cell_new _ _ _ _ rfl
       case hlen => rw [idl_length]; have := HL.out; have := HN.out; simp; omega
       case hbase => have := RR.out.sz; have := SZ.out; simp; omega
       intro m' w5 hown2 hgrow2 hblk
       have hN0w : N0 ≤ wr.heap.size := Nat.le_trans RR.out.sz SZ.out
       have b45 : Below N0 wr w5 := ((Below.refl _ _).alloc hN0w _).grown hgrow2 (by simp; omega) (fun q hq => (IDB.out q hq).1)
       have row5 : row? w5 B = some (tbA vo2 (d : Nat) vm) := by rw [row?_below b45 HBB.out.1]; exact ROW.out
       have left5 : Sl w5 vo2 ((l.drop A).drop q) := LEFT.out.keep (fun b off n cap e h => (NE2.out b off n cap e h).2) b45
       have ob5 := own_grown (OB.out.alloc _) hgrow2 (fun q hq e => by have h1 := (OB.out.lt q hq).1; have h2 := (IDB.out q e.symm).2; omega)
       have bw5 : Below w.heap.size w w5 := BW.out.trans (b45.mono (by have := HBB.out; omega))
       have given5 : w5.ownsRow N0 3 1 m' (idl d).length ((idl d).map iv) := by
        have h := hown2
        rw [← HD.out] at h ⊢
        rw [← idl_next]
        simpa using h
       have mblk : ∀ g, m'.ownBlock = some g → ∀ p, (Value.slice ab q cb).ownBlock = some p → g ≠ p := fun g hq p hp => by
        have h1 := OB.out.lt p hp
        rcases hblk with h | h
        ·rw [h] at hq
         have h2 := (IDB.out g hq).2
         omega
        ·have h2 := h g hq
         simp at h2
         omega
       have ROW5 := Lib.hid row5
       have LEFT5 := Lib.hid left5
       have OB5 := Lib.hid ob5
       have BW5 := Lib.hid bw5
       have GIV5 := Lib.hid given5
       have MBLK := Lib.hid mblk
       have HN5 := Lib.hid (And.intro hN0w b45.size)
       have c1 := below_cell bw5 HC.out (cell_lt HC.out)
       obtain ⟨A1, hA1⟩ : ∃ A1, A + q = A1 := ⟨_, rfl⟩
       have eA1 : (A : Int) + (q : Int) = (A1 : Nat) := by omega
       have hwA : wrap64 ((A1 : Nat) : Int) = (A1 : Nat) := by have := HL.out; have := RR.out.hA; have := HK.out; unfold wrap64; omega
       have HA1 := Lib.hid hA1
       clear hN0w b45 row5 left5 ob5 bw5 given5 mblk hown2 hgrow2 hblk hA1
       obtain ⟨A2, hA2⟩ : ∃ A2, min A1 l.length = A2 := ⟨_, rfl⟩
       have eMin : min ((A1 : Nat) : Int) (l.length : Nat) = (A2 : Nat) := by omega
       have hdr : (l.drop A).drop q = l.drop A2 := by
        rw [List.drop_drop, HA1.out]
        by_cases h : A1 ≤ l.length
        ·rw [show A2 = A1 by omega]
        ·rw [List.drop_eq_nil_of_le (by omega), List.drop_eq_nil_of_le (by omega)]
       have HA2 := Lib.hid hA2
       have HDR := Lib.hid hdr
       clear hA2 hdr
       go_wp2_with fail
       clear c1 eA1 hwA eMin
       refine (over_any (padded (l.drop A) q) (by rw [padded_length]; have := HK.out; omega) _ _ w5 (Nat.le_trans SZ.out HN5.out.2) OB5.out).mono ?_
       rintro e w6 ⟨rfl, g6⟩
       have hN05 : N0 ≤ w5.heap.size := Nat.le_trans HN5.out.1 HN5.out.2
       have b56 : Below N0 w5 w6 := (Below.refl N0 w5).grown g6 hN05 (fun p hp => Nat.le_trans RR.out.sz (OB5.out.lt p hp).1)
       have row6 : row? w6 B = some (tbA vo2 (d : Nat) vm) := by rw [row?_below b56 HBB.out.1]; exact ROW5.out
       have left6 : Sl w6 vo2 ((l.drop A).drop q) := LEFT5.out.keep (fun b off n cap e h => (NE2.out b off n cap e h).2) b56
       have bw6 : Below w.heap.size w w6 := BW5.out.trans (b56.mono (by have := HBB.out; omega))
       have given6 := own_grown GIV5.out g6 (fun p hp e => MBLK.out p hp p e.symm rfl)
       have sz6 : N0 ≤ w6.heap.size := Nat.le_trans hN05 b56.size
       have hleft := tleft_any B ((l.drop A).drop q) vo2 vm (d : Nat) w6 row6 left6
       rw [HDR.out] at left6 hleft
       have hR2 : TbRel l B N0 vm w A2 d vo2 m' w6 := ⟨by have := HA2.out; omega, given6, row6, left6, NE2.out, bw6, sz6⟩
       have RR2 := Lib.hid hR2
       have hlen : (l.drop A2).length = l.length - A2 := List.length_drop
       obtain ⟨r, hr⟩ : ∃ r, (l.drop A2).length = r := ⟨_, rfl⟩
       rw [hr] at hleft hlen
       have hwR : wrap64 ((l.length : Nat) - (A2 : Int)) = (r : Nat) := by have := HL.out; have := HA2.out; unfold wrap64; omega
       clear hN05 b56 row6 left6 bw6 given6 sz6 hR2 g6 hr hlen
       go_wp2_with fail
       refine hleft.mono ?_
       clear hleft
       rintro e w7 ⟨rfl, rfl⟩
       go_wp2_with fail
       go_roundw
       case rel => exact ⟨A2, d, n + 1, vo2, by have := HN.out; omega, by go_num, rfl, by have := HN.out; have := HD.out; omega, RR2.out⟩
       case measure => have := HN.out; simp [intOf]; omega
  ·obtain rfl : n = xs.length := by omega
   go_wp2_with fail
   refine (awake_any _).mono ?_
   rintro e wI ⟨rfl, hz⟩
   go_wp2_with fail
   go_ret
   exact ⟨rfl, RR.out.bw.trans (hz.mono RR.out.bw.size)⟩
end Go.Proofs.Ytjlpppnpdgenfaa
