/- LetA; LetB; LetC; LetD; HstS; HelA; HelB. -/
import Derived.Test.YthjbmggpleliaaaGreatDoorMhb30
import Derived.Test.YthjbmggpleliaaaGreatDoorMhbVarW
import Derived.WalkMore
import Derived.ScopeJumps
section
namespace Go.Proofs.YthjbmggpleliaaaGreatDoor
open Go.RowKit Go.Rw Aes Hdr Vlt Hst
set_option maxRecDepth 100000 in
set_option maxHeartbeats 1000000 in
theorem index_any (g : Nat) (xs : List Int) (hx : xs.length = 3) (v : Int) (w : World) (hr : row? w g = some (ivs xs)) :
  Calls Tryz.prog 111 #[.slice (some ⟨g, 0, none⟩) 3 3, .int .i64 v] w fun e w' => (∃ k : Int, e = .returned (.int .i64 k) ∧ (0 ≤ k ↔ ∃ j, j < 3 ∧ ni xs j = v)) ∧ Below w.heap.size w w' := by
 have HR := Lib.hid hr
 have HX := Lib.hid hx
 clear hr hx
 go_enter Tryz.func111, Tryz.ntmps111
 go_wp2_with fail
 go_loopw [5, 8] (fun _ c wr => ∃ k : Nat, k ≤ 3 ∧ c = .int .i64 (k : Nat) ∧ (∀ j, j < k → ni xs j ≠ v) ∧ w = wr) (fun _ c _ => 3 - (intOf c).toNat)
 case atStart => exact ⟨0, by omega, rfl, fun j hj => by omega, rfl⟩
 case round =>
  obtain ⟨k, hk, rfl, hj, rfl⟩ := hrel
  have HJ := Lib.hid hj
  clear hj
  by_cases hk3 : k < 3
  ·have p1 : decide ((k : Int) < 3) = true := decide_eq_true (by omega)
   have ck : w.cell? ⟨g, k, none⟩ = some (.int .i64 (ni xs k)) := by rw [row?_cell HR.out, ivs_getElem?, if_pos (by rw [HX.out]; exact hk3)]
   by_cases hv : v = ni xs k
   ·have p2 : (v == ni xs k) = true := by simpa using hv
    generalize hn : ni xs k = y at *
    have HV := Lib.hid (And.intro hn hv)
    clear hn hv
    go_wp2_with fail
    go_ret
    exact ⟨⟨k, rfl, ⟨fun _ => ⟨k, hk3, by rw [HV.out.1, HV.out.2]⟩, fun _ => by omega⟩⟩, Below.refl _ _⟩
   ·have p2 : (v == ni xs k) = false := by simpa using hv
    generalize hn : ni xs k = y at *
    have HV := Lib.hid (And.intro hn hv)
    clear hn hv
    go_wp2_with fail
    refine ⟨⟨k + 1, by omega, by push_cast; rfl, fun j hj => ?_, trivial⟩, meas_up hk3 rfl⟩
    by_cases e : j = k
    ·subst e; rw [HV.out.1]; exact fun h => HV.out.2 h.symm
    ·exact HJ.out j (by omega)
  ·obtain rfl : k = 3 := by omega
   have p1 : decide ((3 : Int) < 3) = false := rfl
   go_wp2_with fail
   go_ret
   exact ⟨⟨-1, rfl, ⟨fun h => by omega, fun ⟨j, hj, h⟩ => absurd h (HJ.out j hj)⟩⟩, Below.refl _ _⟩
set_option maxRecDepth 100000 in
set_option maxHeartbeats 1000000 in
theorem contains_any (g : Nat) (xs : List Int) (hx : xs.length = 3) (v : Int) (w : World) (hr : row? w g = some (ivs xs)) :
  Calls Tryz.prog 85 #[.slice (some ⟨g, 0, none⟩) 3 3, .int .i64 v] w fun e w' => (∃ b, e = .returned (.bool b) ∧ (b = true ↔ ∃ j, j < 3 ∧ ni xs j = v)) ∧ Below w.heap.size w w' := by
 have HI := Lib.hid (index_any g xs hx v w hr)
 clear hr hx
 go_enter Tryz.func85, Tryz.ntmps85
 go_wp2_with fail
 refine HI.out.mono ?_
 rintro e w1 ⟨⟨k, rfl, hk⟩, b1⟩
 have H1 := Lib.hid (And.intro hk b1)
 clear hk b1
 go_wp2_with fail
 go_ret
 exact ⟨⟨_, rfl, by rw [decide_eq_true_iff]; exact H1.out.1⟩, H1.out.2⟩
set_option maxRecDepth 100000 in
set_option maxHeartbeats 1000000 in
theorem bucket_any (v : Int) (w : World) (hg : Glob w) :
  Calls Tryz.prog 51 #[.int .i64 v] w fun e w' => (∃ b, e = .returned (.bool b) ∧ (b = true ↔ v = 256 ∨ v = 512 ∨ v = 1024)) ∧ Below w.heap.size w w' := by
 have HI := Lib.hid (contains_any 0 [256, 512, 1024] rfl v w hg.1)
 clear hg
 go_enter Tryz.func51, Tryz.ntmps51
 go_wp2_with fail
 refine HI.out.mono ?_
 rintro e w1 ⟨⟨b, rfl, hb⟩, b1⟩
 have H1 := Lib.hid (And.intro hb b1)
 clear hb b1
 go_wp2_with fail
 go_ret
 refine ⟨⟨b, rfl, H1.out.1.trans ⟨?_, ?_⟩⟩, H1.out.2⟩
 ·rintro ⟨j, hj, h⟩
  rcases (by omega : j = 0 ∨ j = 1 ∨ j = 2) with rfl | rfl | rfl
  ·exact .inl h.symm
  ·exact .inr (.inl h.symm)
  ·exact .inr (.inr h.symm)
 ·rintro (rfl | rfl | rfl)
  ·exact ⟨0, by omega, rfl⟩
  ·exact ⟨1, by omega, rfl⟩
  ·exact ⟨2, by omega, rfl⟩
end Go.Proofs.YthjbmggpleliaaaGreatDoor

end
section
namespace Go.Proofs.YthjbmggpleliaaaGreatDoor
open Go.RowKit Go.Rw Aes Hdr Vlt Hst
theorem vlen_one {n : Nat} (h : n < 64) : vlen n = 1 := by unfold vlen; rw [if_pos h]
set_option maxRecDepth 100000 in
set_option maxHeartbeats 1000000 in
theorem part_any (l d : List UInt8) (kind : Nat) (hk : kind < 64) (hl : l.length ≤ 100000) (hd : d.length < 64) (v u : Value) (w : World) (hs : Sl w v l) (hu : Sl w u d) :
  Calls Tryz.prog 54 #[v, .int .u64 (kind : Nat), u] w fun e w' => (∃ v' l', e = .returned v' ∧ l'.length = l.length + 2 + d.length ∧ OwnB w' w.heap.size v' l') ∧ Below w.heap.size w w' := by
 obtain ⟨i0, hi, hz0, hz1, hz2⟩ := info_parts info8
 obtain ⟨ao, cap, rfl, -⟩ := id hs
 obtain ⟨bo, bcap, rfl, -⟩ := id hu
 have HS := Lib.hid hs
 have HU := Lib.hid hu
 have HN := Lib.hid (And.intro hk (And.intro hl hd))
 have e1 : IntKind.u64.wrap ((d.length : Nat) : Int) = (d.length : Nat) := wrapU _ (by omega)
 clear hs hu hk hl hd
 go_enter Tryz.func54, Tryz.ntmps54
 go_wp2_with fail
 refine (vput_any l kind (by have := HN.out; omega) (by have := HN.out; omega) _ w HS.out).mono ?_
 rintro e w1 ⟨v1, rfl, o1, b1⟩
 have q1 : (l ++ vin kind (vlen kind)).length = l.length + 1 := by rw [List.length_append, vin_length, vlen_one HN.out.1]
 generalize l ++ vin kind (vlen kind) = l1 at *
 obtain ⟨a1, c1, rfl, -⟩ := id (Own.sl o1)
 have O1 := Lib.hid (Own.sl o1)
 have B1 := Lib.hid b1
 have Q1 := Lib.hid q1
 clear o1 b1 q1
 go_wp2_with fail
 refine (vput_any l1 d.length (by have := HN.out; have := Q1.out; omega) (by have := HN.out; omega) _ w1 O1.out).mono ?_
 rintro e w2 ⟨v2, rfl, o2, b2⟩
 have q2 : (l1 ++ vin d.length (vlen d.length)).length = l.length + 2 := by rw [List.length_append, vin_length, vlen_one HN.out.2.2, Q1.out]
 generalize l1 ++ vin d.length (vlen d.length) = l2 at *
 obtain ⟨a2, c2, rfl, -⟩ := id (Own.sl o2)
 have O2 := Lib.hid (own_lower o2 B1.out.size)
 have B2 := Lib.hid (B1.out.trans (b2.mono B1.out.size))
 have Q2 := Lib.hid q2
 clear o2 b2 q2 e1
 go_wp2_with (at_builtin; refine Classical.byContradiction ?_)
 intro hh; apply hh; clear hh
 refine app_sl rfl _ _ 22 rfl w.heap.size 5 i0 Tryz.underlying22 hi hz0 hz1 hz2 (.slice a2 l2.length c2) l2 rfl O2.out (.slice bo d.length bcap) d rfl (HU.out.below B2.out) (by have := HN.out; have := Q2.out; omega) B2.out.size ?_
 intro v3 w3 o3 g3
 have b3 : Below w.heap.size w w3 := below_grown B2.out g3 (fun q e => (O2.out.lt q e).1) B2.out.size
 have H3 := Lib.hid (And.intro o3 b3)
 clear o3 g3 b3
 go_wp2_with fail
 go_ret
 exact ⟨⟨v3, l2 ++ d, rfl, by rw [List.length_append, Q2.out], H3.out.1⟩, H3.out.2⟩
end Go.Proofs.YthjbmggpleliaaaGreatDoor

end
section
namespace Go.Proofs.YthjbmggpleliaaaGreatDoor
open Go.RowKit Go.Rw Aes Hdr Vlt Hst
set_option maxRecDepth 100000 in
set_option maxHeartbeats 1000000 in
theorem indexF_nil (f : Value) (w : World) : Calls Tryz.prog 142 #[.slice none 0 0, f] w fun e w' => e = .returned (.int .i64 (-1)) ∧ w = w' := by
 go_enter Tryz.func142, Tryz.ntmps142
 go_wp2_with fail
 go_loopw [5, 8] (fun _ v wr => v = .int .i64 0 ∧ w = wr) (fun _ _ _ => 0)
 case atStart => exact ⟨rfl, rfl⟩
 case round =>
  obtain ⟨rfl, rfl⟩ := hrel
  go_wp2_with fail
  go_ret
  exact ⟨rfl, rfl⟩
set_option maxRecDepth 100000 in
set_option maxHeartbeats 1000000 in
theorem containsF_nil (f : Value) (w : World) : Calls Tryz.prog 112 #[.slice none 0 0, f] w fun e w' => e = .returned (.bool false) ∧ w = w' := by
 go_enter Tryz.func112, Tryz.ntmps112
 go_wp2_with fail
 refine (indexF_nil _ _).mono ?_
 rintro e w1 ⟨rfl, rfl⟩
 go_wp2_with fail
 go_ret
 exact ⟨rfl, rfl⟩
set_option maxRecDepth 100000 in
set_option maxHeartbeats 1000000 in
theorem fput_nil (w : World) : Calls Tryz.prog 86 #[.slice none 0 0] w fun e w' => e = .returned (.tuple #[.slice (some ⟨w.heap.size, 0, none⟩) 2 2, .int .i64 0]) ∧ row? w' w.heap.size = some (bvs [0, 0]) ∧ Below w.heap.size w w' := by
 go_enter Tryz.func86, Tryz.ntmps86
 go_wp2_with fail
 refine (containsF_nil _ _).mono ?_
 rintro e w1 ⟨rfl, rfl⟩
 go_wp2_with fail
 go_loopw [6, 17, 4] (fun _ v o wr => v = .int .i64 0 ∧ o = .slice (some ⟨w.heap.size, 0, none⟩) 2 2 ∧ row? wr w.heap.size = some (bvs [0, 0]) ∧ Below w.heap.size w wr) (fun _ _ _ _ => 0)
 case atStart => exact ⟨rfl, rfl, row?_alloc_at _ _ _ _ rfl, (Below.refl _ _).alloc (Nat.le_refl _) _⟩
 case round =>
  obtain ⟨rfl, rfl, hr, hb⟩ := hrel
  have HR := Lib.hid (And.intro hr hb)
  clear hr hb
  go_wp2_with fail
  go_ret2
  exact ⟨rfl, HR.out.1, HR.out.2⟩
set_option maxRecDepth 100000 in
set_option maxHeartbeats 2000000 in
theorem plain_any (body : List UInt8) (hb : body.length < 64) (bv' : Value) (w : World) (hs : Sl w bv' body) :
  Calls Tryz.prog 52 #[.agg #[.slice none 0 0, bv']] w fun e w' => (∃ v l, e = .returned (.tuple #[v, .int .i64 0]) ∧ l.length = (if body.length = 0 then 4 else 6 + body.length) ∧ OwnB w' w.heap.size v l) ∧ Below w.heap.size w w' := by
 obtain ⟨bo, bcap, rfl, -⟩ := id hs
 have HS := Lib.hid hs
 have HN := Lib.hid hb
 clear hs hb
 go_enter Tryz.func52, Tryz.ntmps52
 go_wp2_with fail
 have al := (Below.refl w.heap.size w).alloc (Nat.le_refl _) (.cells #[.slice none 0 0, .slice bo body.length bcap] 37)
 have R0 := Lib.hid (show row? (w.alloc (.cells #[.slice none 0 0, .slice bo body.length bcap] 37)) w.heap.size = some #[.slice none 0 0, .slice bo body.length bcap] from row?_alloc_at _ _ _ _ rfl)
 have B0 := Lib.hid al
 clear al
 generalize (w.alloc (.cells #[.slice none 0 0, .slice bo body.length bcap] 37)) = w0 at *
 refine (fput_nil w0).mono ?_
 rintro e w1 ⟨rfl, hr, b1⟩
 have R1 := Lib.hid hr
 have B1 := Lib.hid (B0.out.trans (b1.mono B0.out.size))
 have R01 := Lib.hid (Rg.stable_row b1 R0.out)
 clear hr b1
 go_wp2_with fail
 refine (part_any [] [0, 0] 1 (by omega) (by simp) (by simp) _ _ _ (Sl.nil _) (sl_row R1.out rfl)).mono ?_
 rintro e w2 ⟨⟨v2, l2, rfl, hl2, o2⟩, b2⟩
 obtain ⟨a2, c2, rfl, -⟩ := id o2.sl
 have R2 := Rg.stable_row b2 R01.out
 have c1 : w2.cell? ⟨w.heap.size, 1, none⟩ = some (.slice bo body.length bcap) := row?_cell R2 1
 have O2 := Lib.hid (own_lower o2 B1.out.size)
 have B2 := Lib.hid (B1.out.trans (b2.mono B1.out.size))
 have HL2 := Lib.hid hl2
 clear o2 b2 hl2 R2
 by_cases h0 : body.length = 0
 ·have p1 : decide (0 < body.length) = false := decide_eq_false (by omega)
  have p2 : ¬ 0 < body.length := by omega
  have H0 := Lib.hid h0
  clear h0
  go_wp2_with fail
  go_ret2
  exact ⟨⟨_, rfl, l2, by have := HL2.out; simpa using this, O2.out⟩, B2.out⟩
 ·have p1 : decide (0 < body.length) = true := decide_eq_true (by omega)
  have p2 : 0 < body.length := by omega
  have H0 := Lib.hid h0
  clear h0
  go_wp2_with fail
  refine (part_any l2 body 0 (by omega) (by have := HL2.out; simp at this; omega) HN.out _ _ _ (Own.sl O2.out) (HS.out.below B2.out)).mono ?_
  rintro e w3 ⟨⟨v3, l3, rfl, hl3, o3⟩, b3⟩
  have H3 := Lib.hid (And.intro hl3 (And.intro (own_lower o3 B2.out.size) (B2.out.trans (b3.mono B2.out.size))))
  clear hl3 o3 b3
  go_wp2_with fail
  go_ret2
  exact ⟨⟨_, rfl, l3, by have h1 := HL2.out; have h2 := H3.out.1; simp at h1; omega, H3.out.2.1⟩, H3.out.2.2⟩
set_option maxRecDepth 100000 in
theorem fits_any (n b : Nat) (hn : n + 2 ≤ b) (hb : b ≤ 100000) (w : World) :
  Calls Tryz.prog 53 #[.int .i64 (n : Nat), .int .i64 (b : Nat)] w fun e w' => e = .returned (.bool true) ∧ w = w' := by
 have q1 : ((n : Int) == (b : Int)) = false := by simp; omega
 obtain ⟨m, hm⟩ : ∃ m : Nat, b - 2 = m := ⟨_, rfl⟩
 have q2 := wrap_nat (show (b : Int) - 2 = (m : Nat) by omega) (by omega)
 have p1 : decide (n ≤ m) = true := decide_eq_true (by omega)
 clear hn hb hm
 go_enter Tryz.func53, Tryz.ntmps53
 go_wp2_with fail
 go_ret
 exact ⟨rfl, rfl⟩
end Go.Proofs.YthjbmggpleliaaaGreatDoor

end
section
namespace Go.Proofs.YthjbmggpleliaaaGreatDoor
open Go Go.RowKit Go.Rw Aes Hdr Vlt Hst
theorem J_ofX {J : Act → World → Prop} {X : Type} {F : X → (Nat → Value) → Array Value} {R : X → World → Prop} (h : ∀ a w, J a w ↔ ∃ x z, a = ⟨F x z, []⟩ ∧ R x w) {t : Array Value} {w : World} (x : X) (ht : t = F x (fun i => t.getD i undef)) (hr : R x w) : J ⟨t, []⟩ w :=
 (h _ _).2 ⟨x, fun i => t.getD i undef, by rw [← ht], hr⟩
theorem mless {w : World} {N B n : Nat} {v : Value} {l : List UInt8} (h : OwnB w N v l) (h1 : n < l.length) (h2 : l.length ≤ B) : B - sliceLen v < B - n := by
 obtain ⟨ao, cap, rfl, -⟩ := id h.sl
 simp only [sliceLen]
 omega
set_option maxRecDepth 100000 in
set_option maxHeartbeats 2000000 in
theorem letput_any (B : Nat) (hB : B = 256 ∨ B = 512) (body : List UInt8) (hb : body.length < 64) (bv0 : Value) (w : World) (hs : Sl w bv0 body) (hg : Glob w) :
  Calls Tryz.prog 22 #[.agg #[.slice none 0 0, bv0], .int .i64 (B : Nat)] w fun e w' => (∃ v l, e = .returned (.tuple #[v, .int .i64 0]) ∧ l.length = B ∧ OwnB w' w.heap.size v l) ∧ Below w.heap.size w w' := by
 obtain ⟨bo, bcap, rfl, -⟩ := id hs
 generalize hbv : Value.slice bo body.length bcap = bv0 at *
 obtain ⟨J, hJ⟩ : ∃ J : Act → World → Prop, ∀ a w', J a w' ↔ (∃ (x : Value) (z : Nat → Value), a = ⟨(fun (x : Value) (z : Nat → Value) => #[.agg #[.slice none 0 0, bv0], .int .i64 (B : Nat), z 2, z 3, z 4, z 5, x, z 7, z 8, z 9, z 10, z 11, z 12, z 13, z 14, z 15, z 16, z 17, z 18, z 19, z 20, z 21, z 22, z 23, z 24, z 25, z 26, z 27, z 28, z 29, z 30, z 31, z 32, z 33, z 34, z 35, z 36, z 37, z 38, z 39, z 40, z 41, z 42, z 43, z 44, z 45, z 46, z 47, z 48]) x z, []⟩ ∧ (fun (x : Value) (w' : World) => ∃ l : List UInt8, OwnB w' w.heap.size x l ∧ Below w.heap.size w w' ∧ l.length ≤ B ∧ l.length + 1 ≠ B) x w') := ⟨_, fun _ _ => Iff.rfl⟩
 have HJ := Lib.hid hJ
 have HS := Lib.hid hs
 have HG := Lib.hid hg
 have HN := Lib.hid (And.intro hB hb)
 subst hbv
 clear hJ hs hg hB hb
 go_enter Tryz.func22, Tryz.ntmps22
 go_wp2_with fail
 refine wp_scope_jumps 0 J (fun a _ => B - sliceLen (a.tmps.getD 6 undef)) rfl ?first ?pass
 case first =>
  go_wp2_with fail
  have al := (Below.refl w.heap.size w).alloc (Nat.le_refl _) (.cells #[.slice none 0 0, .slice bo body.length bcap] 37)
  have R0 := Lib.hid (show row? (w.alloc (.cells #[.slice none 0 0, .slice bo body.length bcap] 37)) w.heap.size = some #[.slice none 0 0, .slice bo body.length bcap] from row?_alloc_at _ _ _ _ rfl)
  have B0 := Lib.hid al
  clear al
  generalize (w.alloc (.cells #[.slice none 0 0, .slice bo body.length bcap] 37)) = w0 at *
  refine (bucket_any (B : Nat) w0 (HG.out.below B0.out)).mono ?_
  rintro e w1 ⟨⟨b, rfl, hb⟩, b1⟩
  obtain rfl : b = true := hb.2 (by rcases HN.out.1 with rfl | rfl; exact .inl rfl; exact .inr (.inl rfl))
  have R1 := Rg.stable_row b1 R0.out
  have c0 : w1.cell? ⟨w.heap.size, 0, none⟩ = some (.slice none 0 0) := row?_cell R1 0
  have c1 : w1.cell? ⟨w.heap.size, 1, none⟩ = some (.slice bo body.length bcap) := row?_cell R1 1
  have B1 := Lib.hid (B0.out.trans (b1.mono B0.out.size))
  have HR1 := Lib.hid R1
  clear hb b1 R1
  simp only []
  go_wp2_with fail
  refine (plain_any body HN.out.2 _ w1 (HS.out.below B1.out)).mono ?_
  rintro e w2 ⟨⟨x, l, rfl, hl, ho⟩, b2⟩
  obtain ⟨xo, xc, rfl, -⟩ := id ho.sl
  have hl10 : l.length ≤ 100 ∧ 2 ≤ l.length := by
   have := HN.out.2
   rw [hl]; split <;> omega
  have B2 := Lib.hid (B1.out.trans (b2.mono B1.out.size))
  have HO := Lib.hid (own_lower ho B1.out.size)
  have HL := Lib.hid hl10
  clear hl ho b2 hl10 c0 c1
  simp only []
  go_wp2_with fail
  refine (fits_any l.length B (by have := HL.out; have := HN.out.1; omega) (by have := HN.out.1; omega) w2).mono ?_
  rintro e w3 ⟨rfl, rfl⟩
  simp only []
  go_wp2_with fail
  refine wp_label ?_
  have hl1 : l.length ≤ B := by have := HL.out; have := HN.out.1; omega
  have hl2 : l.length + 1 ≠ B := by have := HL.out; have := HN.out.1; omega
  have hBB : B ≤ 1000 := by have := HN.out.1; omega
  obtain ⟨left, hleft⟩ : ∃ left : Nat, B - l.length = left := ⟨_, rfl⟩
  have e1 := wrap_nat (show (B : Int) - (l.length : Nat) = (left : Nat) by omega) (by omega)
  by_cases z : left = 0
  case pos =>
   subst z
   have HZ := Lib.hid (show l.length = B by omega)
   clear hleft hl1 hl2
   go_wp2_with fail
   simp only [Exit.jump]
   go_ret2
   exact ⟨⟨_, l, rfl, HZ.out, HO.out⟩, B2.out⟩
  have q0 : ((left : Int) == 0) = false := by simp; omega
  by_cases h64 : left ≤ 64 ∨ 66 < left
  case pos =>
   obtain ⟨m, hm⟩ : ∃ m : Nat, min left 64 = m := ⟨_, rfl⟩
   have hmi : min (left : Int) 64 = (m : Nat) := by omega
   obtain ⟨k, hk⟩ : ∃ k : Nat, m - 2 = k := ⟨_, rfl⟩
   have e2 : (m : Int) - 2 = (k : Nat) := by omega
   have hmk := mk_bytesV k (by omega)
   have HK := Lib.hid (show k + 2 = m ∧ k < 64 ∧ l.length + m ≤ B ∧ l.length + m + 1 ≠ B by omega)
   have hq : decide ((left : Int) ≤ 64) = true ∨ (decide ((left : Int) ≤ 64) = false ∧ decide ((66 : Int) < (left : Nat)) = true) := by
    rcases h64 with h | h
    ·exact .inl (decide_eq_true (by omega))
    ·exact .inr ⟨decide_eq_false (by omega), decide_eq_true (by omega)⟩
   clear hk hm hleft hl1 hl2 h64 z
   rcases hq with p1 | ⟨p1, p2⟩
   all_goals
    go_wp2_with fail
    have al := (Below.refl w2.heap.size w2).alloc (Nat.le_refl _) (.cells (bvs (List.replicate k 0)) 5)
    refine (part_any l (List.replicate k 0) 33 (by omega) (by have := HN.out.1; have := HK.out; omega) (by rw [List.length_replicate]; exact HK.out.2.1) _ _ _ ((Own.sl HO.out).below al) (sl_row (row?_alloc_at _ _ _ _ rfl) (List.length_replicate ..))).mono ?_
    rintro e w4 ⟨⟨v4, l4, rfl, hl4, o4⟩, b4⟩
    rw [List.length_replicate] at hl4
    have B4 := Lib.hid (B2.out.trans ((al.trans (b4.mono al.size)).mono B2.out.size))
    have O4 := Lib.hid (own_lower o4 (Nat.le_trans B2.out.size al.size))
    have H4 := Lib.hid hl4
    clear al o4 b4 hl4 e1 e2 hmk hmi
    go_wp2_with fail
    go_step3
    exact ⟨rfl, J_ofX HJ.out v4 (by kernel_rfl) ⟨l4, O4.out, B4.out, by have := H4.out; have := HK.out; omega, by have := H4.out; have := HK.out; omega⟩⟩
  have hmk : ∀ W, (Instr.makeSlice 22 (.int .i64 30) (.int .i64 30)).run Tryz.prog W = .ok (.slice (some ⟨W.heap.size, 0, none⟩) 30 30) (W.alloc (.cells (bvs (List.replicate 30 0)) 5)) := fun W => mk_bytesV 30 (by omega) W
  have p1 : decide ((left : Int) ≤ 64) = false := decide_eq_false (by omega)
  have p2 : decide ((66 : Int) < (left : Nat)) = false := decide_eq_false (by omega)
  have HK := Lib.hid (show l.length + 32 ≤ B ∧ l.length + 32 + 1 ≠ B by omega)
  clear hleft hl1 hl2 h64 z
  go_wp2_with fail
  have al := (Below.refl w2.heap.size w2).alloc (Nat.le_refl _) (.cells (bvs (List.replicate 30 0)) 5)
  refine (part_any l (List.replicate 30 0) 33 (by omega) (by have := HN.out.1; have := HK.out; omega) (by rw [List.length_replicate]; omega) _ _ (w2.alloc (.cells (bvs (List.replicate 30 0)) 5)) ((Own.sl HO.out).below al) (sl_row (row?_alloc_at _ _ _ _ rfl) (List.length_replicate ..))).mono ?_
  rintro e w4 ⟨⟨v4, l4, rfl, hl4, o4⟩, b4⟩
  rw [List.length_replicate] at hl4
  have B4 := Lib.hid (B2.out.trans ((al.trans (b4.mono al.size)).mono B2.out.size))
  have O4 := Lib.hid (own_lower o4 (Nat.le_trans B2.out.size al.size))
  have H4 := Lib.hid hl4
  clear al o4 b4 hl4 e1 hmk
  go_wp2_with fail
  go_step3
  exact ⟨rfl, J_ofX HJ.out v4 (by kernel_rfl) ⟨l4, O4.out, B4.out, by have := H4.out; have := HK.out; omega, by have := H4.out; have := HK.out; omega⟩⟩
 case pass =>
  intro a wa hja
  obtain ⟨x, z, rfl, l, ho, hbl, hl1, hl2⟩ := (HJ.out a wa).1 hja
  simp only [] at ho hbl hl1 hl2 ⊢
  obtain ⟨xo, xc, rfl, -⟩ := id ho.sl
  have HO := Lib.hid ho
  have B2 := Lib.hid hbl
  have hBB : B ≤ 1000 := by have := HN.out.1; omega
  clear ho hbl hja
  obtain ⟨left, hleft⟩ : ∃ left : Nat, B - l.length = left := ⟨_, rfl⟩
  have e1 := wrap_nat (show (B : Int) - (l.length : Nat) = (left : Nat) by omega) (by omega)
  by_cases z : left = 0
  case pos =>
   subst z
   have HZ := Lib.hid (show l.length = B by omega)
   clear hleft hl1 hl2
   go_wp2_with fail
   simp only [Exit.jump]
   go_ret2
   exact ⟨⟨_, l, rfl, HZ.out, HO.out⟩, B2.out⟩
  have q0 : ((left : Int) == 0) = false := by simp; omega
  by_cases h64 : left ≤ 64 ∨ 66 < left
  case pos =>
   obtain ⟨m, hm⟩ : ∃ m : Nat, min left 64 = m := ⟨_, rfl⟩
   have hmi : min (left : Int) 64 = (m : Nat) := by omega
   obtain ⟨k, hk⟩ : ∃ k : Nat, m - 2 = k := ⟨_, rfl⟩
   have e2 : (m : Int) - 2 = (k : Nat) := by omega
   have hmk := mk_bytesV k (by omega)
   have HK := Lib.hid (show k + 2 = m ∧ k < 64 ∧ l.length + m ≤ B ∧ l.length + m + 1 ≠ B by omega)
   have hq : decide ((left : Int) ≤ 64) = true ∨ (decide ((left : Int) ≤ 64) = false ∧ decide ((66 : Int) < (left : Nat)) = true) := by
    rcases h64 with h | h
    ·exact .inl (decide_eq_true (by omega))
    ·exact .inr ⟨decide_eq_false (by omega), decide_eq_true (by omega)⟩
   clear hk hm hleft hl1 hl2 h64 z
   rcases hq with p1 | ⟨p1, p2⟩
   all_goals
    go_wp2_with fail
    have al := (Below.refl wa.heap.size wa).alloc (Nat.le_refl _) (.cells (bvs (List.replicate k 0)) 5)
    refine (part_any l (List.replicate k 0) 33 (by omega) (by have := HN.out.1; have := HK.out; omega) (by rw [List.length_replicate]; exact HK.out.2.1) _ _ _ ((Own.sl HO.out).below al) (sl_row (row?_alloc_at _ _ _ _ rfl) (List.length_replicate ..))).mono ?_
    rintro e w4 ⟨⟨v4, l4, rfl, hl4, o4⟩, b4⟩
    rw [List.length_replicate] at hl4
    have B4 := Lib.hid (B2.out.trans ((al.trans (b4.mono al.size)).mono B2.out.size))
    have O4 := Lib.hid (own_lower o4 (Nat.le_trans B2.out.size al.size))
    have H4 := Lib.hid hl4
    clear al o4 b4 hl4 e1 e2 hmk hmi
    go_wp2_with fail
    go_step3
    exact ⟨rfl, J_ofX HJ.out v4 (by kernel_rfl) ⟨l4, O4.out, B4.out, by have := H4.out; have := HK.out; omega, by have := H4.out; have := HK.out; omega⟩, mless (n := l.length) O4.out (by have := H4.out; have := HK.out; omega) (by have := H4.out; have := HK.out; omega)⟩
  have hmk : ∀ W, (Instr.makeSlice 22 (.int .i64 30) (.int .i64 30)).run Tryz.prog W = .ok (.slice (some ⟨W.heap.size, 0, none⟩) 30 30) (W.alloc (.cells (bvs (List.replicate 30 0)) 5)) := fun W => mk_bytesV 30 (by omega) W
  have p1 : decide ((left : Int) ≤ 64) = false := decide_eq_false (by omega)
  have p2 : decide ((66 : Int) < (left : Nat)) = false := decide_eq_false (by omega)
  have HK := Lib.hid (show l.length + 32 ≤ B ∧ l.length + 32 + 1 ≠ B by omega)
  clear hleft hl1 hl2 h64 z
  go_wp2_with fail
  have al := (Below.refl wa.heap.size wa).alloc (Nat.le_refl _) (.cells (bvs (List.replicate 30 0)) 5)
  refine (part_any l (List.replicate 30 0) 33 (by omega) (by have := HN.out.1; have := HK.out; omega) (by rw [List.length_replicate]; omega) _ _ (wa.alloc (.cells (bvs (List.replicate 30 0)) 5)) ((Own.sl HO.out).below al) (sl_row (row?_alloc_at _ _ _ _ rfl) (List.length_replicate ..))).mono ?_
  rintro e w4 ⟨⟨v4, l4, rfl, hl4, o4⟩, b4⟩
  rw [List.length_replicate] at hl4
  have B4 := Lib.hid (B2.out.trans ((al.trans (b4.mono al.size)).mono B2.out.size))
  have O4 := Lib.hid (own_lower o4 (Nat.le_trans B2.out.size al.size))
  have H4 := Lib.hid hl4
  clear al o4 b4 hl4 e1 hmk
  go_wp2_with fail
  go_step3
  exact ⟨rfl, J_ofX HJ.out v4 (by kernel_rfl) ⟨l4, O4.out, B4.out, by have := H4.out; have := HK.out; omega, by have := H4.out; have := HK.out; omega⟩, mless (n := l.length) O4.out (by have := H4.out; have := HK.out; omega) (by have := H4.out; have := HK.out; omega)⟩
end Go.Proofs.YthjbmggpleliaaaGreatDoor

end
section
namespace Go.Proofs.YthjbmggpleliaaaGreatDoor
open Go Go.RowKit Go.Rw Aes Hdr Vlt Hst
set_option maxRecDepth 100000 in
set_option maxHeartbeats 2000000 in
theorem submit_nil (a : Option Addr) (n c : Nat) (t b : Int) (w : World) : Calls Tryz.prog 9 #[.pointer none, .int .i64 t, .agg #[.slice none 0 0, .slice a n c], .int .i64 b] w fun e w' => e = .returned (.tuple #[.int .i64 0, .int .i64 1]) ∧ Below w.heap.size w w' := by
 go_enter Tryz.func9, Tryz.ntmps9
 go_wp2_with fail
 go_ret2
 exact ⟨rfl, (Below.refl _ _).alloc (Nat.le_refl _) _⟩
def Unready (w : World) (s : HS) : Prop := s.cur = .pointer none ∨ ∃ c cc, s.cur = .pointer (some ⟨c, 0, none⟩) ∧ RT w c 86 cc ∧ cc[7]? = some (.bool false)
theorem Unready.keep {S : Nat → Prop} {w w' : World} {s : HS} (h : Unready w s) (m : MutS S w w') (hS : ∀ {x : Nat} {d : Array Value}, RT w x 86 d → ¬ S x) : Unready w' s := by
 rcases h with h | ⟨c, cc, h1, h2, h3⟩
 ·exact .inl h
 ·exact .inr ⟨c, cc, h1, RT.keep m h2 (hS h2), h3⟩
theorem ready_un (H : Nat) (s : HS) (w : World) (hr : HR w H s) (h : Unready w s) :
  Calls Tryz.prog 13 #[.pointer (some ⟨H, 0, none⟩)] w fun e w' => e = .returned (.bool false) ∧ w = w' := by
 rcases h with h | ⟨c, cc, h1, h2, h3⟩
 ·exact ready_none H s w hr h
 ·exact ready_unmet H c s w hr h1 ((row?_cell h2.row 7).trans h3)
set_option maxRecDepth 100000 in
set_option maxHeartbeats 2000000 in
theorem submit_state (H L LM N n : Nat) (s : HS) (K T R : List UInt8) (S : Int → Bool) (t : Int) (ht : 0 ≤ t ∧ t ≤ 1000000) (hn : n ≤ 1000000) (B : Nat) (hB : B = 256 ∨ B = 512) (body : List UInt8) (hb : body.length < 64) (bv0 : Value) (w : World) (hi : HI w N H L LM s K T R n S) (hs : Sl w bv0 body) (hg : Glob w) (hN : 3 ≤ N) (hun : Unready w s) (hoff : Off (fun k => k = LM) bv0) :
  Calls Tryz.prog 9 #[.pointer (some ⟨H, 0, none⟩), .int .i64 t, .agg #[.slice none 0 0, bv0], .int .i64 (B : Nat)] w fun e w' => e = .returned (.tuple #[.int .i64 0, .int .i64 8]) ∧ HI w' N H L LM s K T R (n + 1) (fun y => y == t || S y) ∧ MutS (fun k => k = LM) w w' := by
 obtain ⟨bo, bcap, rfl, -⟩ := id hs
 have al := (Below.refl w.heap.size w).alloc (Nat.le_refl _) (.cells #[.slice none 0 0, .slice bo body.length bcap] 37)
 have hlt := hi.hr.lt
 have c12 : w.cell? ⟨H, 12, none⟩ = some (.pointer (some ⟨L, 0, none⟩)) := (hi.hr.c 12).trans (congrArg some hi.as_)
 have HI0 := Lib.hid (hi.below al)
 have HG := Lib.hid (hg.below al)
 have HS := Lib.hid (hs.below al)
 have HU := Lib.hid (hun.keep (MutS.of_below al : MutS (fun _ => False) w _) (fun _ h => h))
 have R0 := Lib.hid (show row? (w.alloc (.cells #[.slice none 0 0, .slice bo body.length bcap] 37)) w.heap.size = some #[.slice none 0 0, .slice bo body.length bcap] from row?_alloc_at _ _ _ _ rfl)
 have RT0 := Lib.hid (show RT (w.alloc (.cells #[.slice none 0 0, .slice bo body.length bcap] 37)) w.heap.size 37 #[.slice none 0 0, .slice bo body.length bcap] from RT.new w _ _ _ rfl)
 have M0 := Lib.hid (MutS.of_below al : MutS (fun k => k = LM) w _)
 have HT := Lib.hid (And.intro ht (And.intro hn (And.intro hB (And.intro hb (And.intro hN hoff)))))
 clear hi hs hg hun al ht hn hB hb hN hoff
 go_enter Tryz.func9, Tryz.ntmps9
 go_wp2_with fail
 generalize (w.alloc (.cells #[.slice none 0 0, .slice bo body.length bcap] 37)) = w0 at *
 refine (ask_any L LM (s.role : Nat) n HT.out.2.1 S t HT.out.1 w0 HI0.out.lad).mono ?_
 rintro e w1 ⟨rfl, hl1, m1⟩
 have HI1 := Lib.hid (HI0.out.asked hl1 m1)
 have M1 := Lib.hid (M0.out.trans m1)
 have RT1 := RT.keep m1 RT0.out (RT.neSet RT0.out HI0.out.lad.2)
 have HU1 := Lib.hid (HU.out.keep m1 (fun h => RT.neSet h HI0.out.lad.2))
 have G1 := Lib.hid (HG.out.keep m1 (fun k e => by rw [e]; have := HI0.out.nM; have := HT.out; omega))
 have S1 := Lib.hid (m1.sl HS.out HT.out.2.2.2.2.2)
 have c0 : w1.cell? ⟨w.heap.size, 0, none⟩ = some (.slice none 0 0) := row?_cell RT1.row 0
 have c1 : w1.cell? ⟨w.heap.size, 1, none⟩ = some (.slice bo body.length bcap) := row?_cell RT1.row 1
 clear hl1 m1 RT1 c12 hlt
 go_wp2_with fail
 refine (letput_any B HT.out.2.2.1 body HT.out.2.2.2.1 _ w1 S1.out G1.out).mono ?_
 rintro e w2 ⟨⟨v, l, rfl, hl, ho⟩, b2⟩
 obtain ⟨vo, vc, rfl, -⟩ := id ho.sl
 have HI2 := Lib.hid (HI1.out.below b2)
 have HU2 := Lib.hid (HU1.out.keep (MutS.of_below b2 : MutS (fun _ => False) w1 _) (fun _ h => h))
 have M2 := Lib.hid (M1.out.below' b2)
 clear hl ho b2 c0 c1
 go_wp2_with fail
 refine (ready_un H s w2 HI2.out.hr HU2.out).mono ?_
 rintro e w3 ⟨rfl, rfl⟩
 go_wp2_with fail
 go_ret2
 exact ⟨rfl, HI2.out, M2.out⟩
end Go.Proofs.YthjbmggpleliaaaGreatDoor

end
section
namespace Go.Proofs.YthjbmggpleliaaaGreatDoor
open Go Go.RowKit Go.Rw Aes Hdr Vlt Hst
theorem own_four (w : World) (a b c d : UInt8) : OwnB (w.alloc (.cells #[.int .u8 (n8 a : Nat), .int .u8 (n8 b : Nat), .int .u8 (n8 c : Nat), .int .u8 (n8 d : Nat)] 5)) w.heap.size (.slice (some ⟨w.heap.size, 0, none⟩) 4 4) [a, b, c, d] :=
 own_of_RT (l := [a, b, c, d]) (RT.new w _ _ _ rfl) rfl (Nat.le_refl _) (by omega)
set_option maxRecDepth 100000 in
set_option maxHeartbeats 2000000 in
theorem piece_any (kd : UInt8) (l : List UInt8) (hl : l.length ≤ 100000) (v : Value) (w : World) (hs : Sl w v l) :
  Calls Tryz.prog 109 #[.int .u8 (n8 kd : Nat), v] w fun e w' => (∃ v' l', e = .returned v' ∧ l'.length = 4 + l.length ∧ OwnB w' w.heap.size v' l') ∧ Below w.heap.size w w' := by
 obtain ⟨i0, hi, hz0, hz1, hz2⟩ := info_parts info8
 obtain ⟨ao, cap, rfl, -⟩ := id hs
 have HS := Lib.hid hs
 have HN := Lib.hid hl
 clear hs hl
 go_enter Tryz.func109, Tryz.ntmps109
 go_wp2_with (at_builtin; refine Classical.byContradiction ?_)
 obtain ⟨a1, h1⟩ := mod8 ((l.length : Nat) / 65536 : Int)
 obtain ⟨a2, h2⟩ := mod8 ((l.length : Nat) / 256 : Int)
 obtain ⟨a3, h3⟩ := mod8 ((l.length : Nat) : Int)
 rw [h1, h2, h3]
 intro hh; apply hh; clear hh
 refine app_sl rfl _ _ 22 rfl w.heap.size 5 i0 Tryz.underlying22 hi hz0 hz1 hz2 (.slice (some ⟨w.heap.size, 0, none⟩) 4 4) [kd, a1, a2, a3] rfl (own_four w kd a1 a2 a3) (.slice ao l.length cap) l rfl (HS.out.below ((Below.refl _ _).alloc (Nat.le_refl _) _)) (by have := HN.out; simp; omega) (by simp) ?_
 intro v3 w3 o3 g3
 have b3 : Below w.heap.size w w3 := below_grown ((Below.refl _ _).alloc (Nat.le_refl _) _) g3 (fun q e => by simp only [Value.ownBlock, Option.some.injEq] at e; omega) (by simp)
 have H3 := Lib.hid (And.intro o3 b3)
 clear o3 g3 b3
 go_wp2_with fail
 go_ret
 exact ⟨⟨v3, [kd, a1, a2, a3] ++ l, rfl, by simp; omega, H3.out.1⟩, H3.out.2⟩
end Go.Proofs.YthjbmggpleliaaaGreatDoor

end
section
namespace Go.Rg
open Go Go.RowKit Go.Rw
theorem ph_bs1 {P : Program} {ops : Array Oper} {R : List Flo} {a0 : Act} {w0 : World} (i : Nat) (d : Tmp) {t e : TypeId} {x : Operand} {inf : TypeInfo} (b : UInt8) (hd : (ops.toList.getD i default).dst = some d)
  (ho : (ops.toList.getD i default).op = .buildSlice t 1 #[(0, x)]) (hx : ∀ us, (puts us R a0).eval x = .int .u8 (n8 b : Nat)) (ht : P.underlying t = some (.slice e)) (hi : P.info? e = some inf) (hz : inf.zero = some (.int .u8 0)) (hsz : inf.size = 1) : ExecOk P ops R a0 w0 ⟨i, d, [], false, JL 1⟩ := by
 refine ph_gen i d [] false _ hd w0.heap.size (Nat.le_refl _) fun us w _ _ => ?_
 refine ⟨.slice (some ⟨w.heap.size, 0, none⟩) 1 1, w.alloc (.cells (bvs [b]) e), ?_, ⟨[b], rfl, ?_⟩, (Below.refl _ _).alloc (Nat.le_refl _) _, fun h => by cases h⟩
 ·refine (run_exec_bslice (P := P) t e 1 #[(0, x)] [.int .u8 (n8 b : Nat)] ho (by decide) inf (.int .u8 0) ht hi hz hsz (by simp) (by simp) ?_ ?_).trans ?_
  ·simp [hx, List.zipIdx]
  ·intro v hv; simp at hv; subst hv; rfl
  ·rfl
 ·exact Sl.row (l := [b]) (row?_alloc_at _ _ _ _ rfl)
end Go.Rg
namespace Go.Proofs.YthjbmggpleliaaaGreatDoor
open Go Go.RowKit Go.Rw Aes Hdr Vlt Hst
def helA (srv : Bool) (r : List UInt8) (ids : Value) : Array Value := #[.bool srv] ++ bvs r ++ #[ids]
theorem cfClone (args : Array Value) (w : World) : (callFunc 35 args).run Tryz.prog w = .ok (.enter 35 args) w := by kernel_rfl
theorem helA_0 (srv : Bool) (r : List UInt8) (ids : Value) : (helA srv r ids)[0]? = some (.bool srv) := by
 unfold helA
 rw [Array.getElem?_append_left (by simp; omega), Array.getElem?_append_left (by simp)]
 rfl
theorem helA_ids {srv : Bool} {r : List UInt8} {ids : Value} (h : r.length = 32) : (helA srv r ids)[33]? = some ids := by
 unfold helA
 rw [Array.getElem?_append_right (by simp [bvs_size, h])]
 simp [bvs_size, h]
theorem helA_r {srv : Bool} {r : List UInt8} {ids : Value} (h : r.length = 32) (k : Nat) (hk : k < 32) : (helA srv r ids)[1 + k]? = some (.int .u8 (n8 (nth r k) : Nat)) := by
 unfold helA
 rw [Array.getElem?_append_left (by simp [bvs_size, h]; omega), Array.getElem?_append_right (by simp)]
 simp only [List.size_toArray, List.length_cons, List.length_nil, Nat.zero_add, Nat.add_sub_cancel_left]
 rw [bvs_getElem?, if_pos (by omega)]
set_option maxRecDepth 100000 in
set_option maxHeartbeats 2000000 in
theorem helput_any (srv : Bool) (r il : List UInt8) (hr : r.length = 32) (hil : il.length = 8) (g : Nat) (v : Value) (w : World) (hg : row? w g = some #[v]) (hv : Sl w v il) :
  Calls Tryz.prog 102 #[.agg (helA srv r (.slice (some ⟨g, 0, none⟩) 1 1))] w fun e w' => (∃ v' l', e = .returned (.tuple #[v', .int .i64 0]) ∧ l'.length = 46 ∧ OwnB w' w.heap.size v' l') ∧ Below w.heap.size w w' := by
 obtain ⟨i0, hi, hz0, hz1, hz2⟩ := info_parts info8
 have HR := Lib.hid (And.intro hr (And.intro hil (And.intro hg hv)))
 clear hr hil hg hv
 go_enter Tryz.func102, Tryz.ntmps102
 have R0 := row?_alloc_at w (helA srv r (.slice (some ⟨g, 0, none⟩) 1 1)) 210 w.heap.size rfl
 go_upto_region 1 with (fail)
 have c33 : (w.alloc (.cells (helA srv r (.slice (some ⟨g, 0, none⟩) 1 1)) 210)).cell? ⟨w.heap.size, 33, none⟩ = some (.slice (some ⟨g, 0, none⟩) 1 1) := (row?_cell R0 33).trans (helA_ids HR.out.1)
 have c0 : (w.alloc (.cells (helA srv r (.slice (some ⟨g, 0, none⟩) 1 1)) 210)).cell? ⟨w.heap.size, 0, none⟩ = some (.bool srv) := (row?_cell R0 0).trans (helA_0 ..)
 have S0 := Lib.hid (show Sl (w.alloc (.cells (helA srv r (.slice (some ⟨g, 0, none⟩) 1 1)) 210)) (.slice (some ⟨w.heap.size, 1, none⟩) 32 32) r from ⟨_, 32, by rw [HR.out.1], by rw [HR.out.1]; omega, fun h => (by cases h), fun _ => ⟨w.heap.size, 1, rfl, fun k hk => (row?_cell R0 (1 + k)).trans (helA_r HR.out.1 k (by have := HR.out.1; omega))⟩⟩)
 have B0 := Lib.hid ((Below.refl w.heap.size w).alloc (Nat.le_refl _) (.cells (helA srv r (.slice (some ⟨g, 0, none⟩) 1 1)) 210))
 have HZ0 := Lib.hid (show (w.alloc (.cells (helA srv r (.slice (some ⟨g, 0, none⟩) 1 1)) 210)).heap.size = w.heap.size + 1 by simp)
 clear R0
 generalize (w.alloc (.cells (helA srv r (.slice (some ⟨g, 0, none⟩) 1 1)) 210)) = w0 at *
 go_wp2_with fail
 refine Rg.wp_region_flo [(0, 3), (1, 3), (3, 3), (4, 0), (5, 0), (6, 3)] [
   ⟨2, 19, [], false, fun u w' => OwnB w' (w.heap.size + 1) u r⟩,
   ⟨7, 24, [], false, Rg.JL 1⟩] [(2, 19, []), (7, 24, [])] [8, 9] (by kernel_rfl) (by kernel_rfl) rfl ?_
 simp only [Rg.row, Rg.PT.map, List.getD_cons_zero, List.getD_cons_succ]
 go_wp2_with (first
  |(with_reducible refine Rg.plan_pure ?_ ?_ ?_); kernel_rfl; kernel_rfl; intro _ _|(with_reducible refine Rg.plan_take ?_ ?_ ?_); kernel_rfl; kernel_rfl; intro _ _|(with_reducible refine Rg.plan_keep ?_ ?_); kernel_rfl; intro K hK|refine hK _ _ (Rg.Keep.refl _) ?_; clear hK|refine hK _ _ (Rg.Keep.of_below (by assumption)) ?_; clear hK|(with_reducible refine Rg.plan_skip ?_ ?_); kernel_rfl|(with_reducible refine Rg.plan_done ?_)|(with_reducible refine Rg.calm_normal ?_))
 refine Rg.phase_done (Rg.phase_mk ?_ ?_ ?_)
 ·exact List.forall_mem_cons.2 ⟨fun v w1 w2 hb h => own_below h hb, List.forall_mem_cons.2 ⟨Rg.JL.st, fun r hr => (by cases hr)⟩⟩
 ·refine List.forall_mem_cons.2 ⟨?_, List.forall_mem_cons.2 ⟨?_, fun r hr => (by cases hr)⟩⟩
  ·with_reducible refine Rg.ph_callD 2 19 [] (fun u w' => OwnB w' (w.heap.size + 1) u r) (f := 35) (xs := #[.tmp 18]) (ts := #[22]) (args := fun _ => #[.slice (some ⟨w.heap.size, 1, none⟩) 32 32]) ?_ ?_ ?_ ?_ ?_
   ·exact cfClone
   ·kernel_rfl
   ·kernel_rfl
   ·intro us; kernel_rfl
   ·intro us wx hb _
    refine (clone_any r (by have := HR.out.1; omega) _ wx ((show Sl w0.drew _ r from S0.out).below hb)).mono ?_
    rintro e w' ⟨v', rfl, ho, hb'⟩
    exact ⟨v', rfl, own_lower ho (Nat.le_trans (Nat.le_of_eq HZ0.out.symm) hb.size), hb'⟩
  ·with_reducible refine Rg.ph_bs1 7 24 (t := 22) (e := 5) (x := .tmp 23) 1 ?_ ?_ ?_ Tryz.underlying22 hi hz0 hz1
   ·kernel_rfl
   ·kernel_rfl
   ·intro us; kernel_rfl
 ·intro us w1 hb1 hJ _ _
  have j2 : OwnB w1 (w.heap.size + 1) (us 2) r := hJ _ (List.getElem_mem (n := 0) (by simp))
  obtain ⟨l7, hl7, j7⟩ : Rg.JL 1 (us 7) w1 := hJ _ (List.getElem_mem (n := 1) (by simp))
  simp only [Rg.puts, List.map_cons, List.map_nil, List.getD_cons_zero, List.getD_cons_succ]
  generalize us 2 = u2 at *
  generalize us 7 = u7 at *
  have hgb := B0.out
  have B1 := Lib.hid (B0.out.trans (show Below w.heap.size w0 w1 from ((Below.refl _ w0).drew.trans hb1).mono B0.out.size))
  have J2 := Lib.hid j2
  have HZ1 := Lib.hid (show w.heap.size + 1 ≤ w1.heap.size by have h1 := HZ0.out; have h2 := hb1.size; simp at h2; omega)
  have J7 := Lib.hid (And.intro j7 hl7)
  have c33' := below_cell hb1 (show w0.drew.cell? _ = _ from c33) (cell_lt (show w0.drew.cell? _ = _ from c33))
  have c0' := below_cell hb1 (show w0.drew.cell? _ = _ from c0) (cell_lt (show w0.drew.cell? _ = _ from c0))
  have C33 := Lib.hid (And.intro c33' c0')
  clear hb1 hJ j2 j7 hl7 hgb c33 c0 c33' c0'
  go_wp2_with (at_builtin; refine Classical.byContradiction ?_)
  intro hh; apply hh; clear hh
  refine app_sl rfl _ _ 22 rfl (w.heap.size + 1) 5 i0 Tryz.underlying22 hi hz0 hz1 hz2 u2 r rfl J2.out u7 l7 rfl J7.out.1 (by have := HR.out.1; have := J7.out.2; omega) HZ1.out ?_
  intro v3 w3 o3 g3
  have hne : ∀ q, u2.ownBlock = some q → w.heap.size + 1 ≤ q := fun q e => (J2.out.lt q e).1
  have B3 := Lib.hid (below_grown B1.out g3 (fun q e => by have := hne q e; omega) B1.out.size)
  have c33 : w3.cell? ⟨w.heap.size, 33, none⟩ = some (.slice (some ⟨g, 0, none⟩) 1 1) := (World.cell?_of_block (g3.block _ (cell_lt C33.out.1) (fun e => by have h9 : w.heap.size + 1 ≤ w.heap.size := hne _ e.symm; omega))).trans C33.out.1
  have c0 : w3.cell? ⟨w.heap.size, 0, none⟩ = some (.bool srv) := (World.cell?_of_block (g3.block _ (cell_lt C33.out.2) (fun e => by have h9 : w.heap.size + 1 ≤ w.heap.size := hne _ e.symm; omega))).trans C33.out.2
  have h33 : (r ++ l7).length = 33 := by rw [List.length_append, HR.out.1, J7.out.2]
  obtain ⟨ao3, cap3, rfl, -⟩ := id (Own.sl o3)
  have o3' : OwnB w3 (w.heap.size + 1) (.slice ao3 (r ++ l7).length cap3) (r ++ l7) := o3
  generalize r ++ l7 = l3 at *
  have O3 := Lib.hid o3'
  have H33 := Lib.hid h33
  clear o3 o3' g3 hne h33
  go_wp2_with (first
   |(with_reducible refine Rg.plan_pure ?_ ?_ ?_); kernel_rfl; kernel_rfl; intro _ _|(with_reducible refine Rg.plan_take ?_ ?_ ?_); kernel_rfl; kernel_rfl; intro _ _|(with_reducible refine Rg.plan_keep ?_ ?_); kernel_rfl; intro K hK|refine hK _ _ (Rg.Keep.refl _) ?_; clear hK|refine hK _ _ (Rg.Keep.of_below (by assumption)) ?_; clear hK|(with_reducible refine Rg.plan_skip ?_ ?_); kernel_rfl|(with_reducible refine Rg.plan_done ?_)|(with_reducible refine Rg.calm_normal ?_))
  go_loopw [4, 6, 29] (fun m _ v wr => ∃ (k : Nat) (l : List UInt8), k ≤ 1 ∧ v = .int .i64 (k : Nat) ∧ l.length = 33 + 9 * k ∧ OwnB wr (w.heap.size + 1) m l ∧ wr.cell? ⟨w.heap.size, 0, none⟩ = some (.bool srv) ∧ Below w.heap.size w wr) (fun _ _ v _ => 1 - (intOf v).toNat)
  case atStart => exact ⟨0, l3, by omega, rfl, H33.out, O3.out, c0, B3.out⟩
  case round =>
   obtain ⟨k, l, hk, rfl, hl, ho, hc, hb⟩ := hrel
   obtain ⟨ao, cap, rfl, -⟩ := id ho.sl
   by_cases hk0 : k = 0
   case pos =>
    subst hk0
    obtain ⟨vo, vc, rfl, -⟩ := id HR.out.2.2.2
    have hg0 := row?_cell (show row? wr g = some #[.slice vo il.length vc] by rw [row?_below hb (row?_lt HR.out.2.2.1)]; exact HR.out.2.2.1) 0
    have cg : wr.cell? ⟨g, 0, none⟩ = some (.slice vo il.length vc) := hg0
    have p8 : (((il.length : Nat) : Int) != 8) = false := by rw [HR.out.2.1]; rfl
    have HO := Lib.hid ho
    have HB := Lib.hid (And.intro hb (And.intro hc hl))
    clear ho hb hc hl hg0 hk
    go_wp2_with (at_builtin; refine Classical.byContradiction ?_)
    intro hh; apply hh; clear hh
    have hlt0 : w.heap.size + 1 ≤ wr.heap.size := cell_lt HB.out.2.1
    refine app_sl rfl _ _ 22 rfl (w.heap.size + 1) 5 i0 Tryz.underlying22 hi hz0 hz1 hz2 (.slice ao l.length cap) l rfl (own_below HO.out ((Below.refl _ _).alloc (Nat.le_refl _) _)) (.slice (some ⟨wr.heap.size, 0, none⟩) 1 1) [8] rfl (Own.sl (own_one wr 0 8 (Nat.zero_le _))) (by have := HB.out.2.2; simp; omega) (by simp; omega) ?_
    intro v4 w4 o4 g4
    obtain ⟨a4, c4, rfl, -⟩ := id (Own.sl o4)
    have hne4 : ∀ q, (Value.slice ao l.length cap).ownBlock = some q → w.heap.size + 1 ≤ q := fun q e => (HO.out.lt q e).1
    have al : Below w.heap.size w (wr.alloc (.cells #[.int .u8 8] 5)) := HB.out.1.alloc HB.out.1.size _
    have b4 : Below w.heap.size w w4 := below_grown al g4 (fun q e => by have := hne4 q e; omega) al.size
    have hc4 : w4.cell? ⟨w.heap.size, 0, none⟩ = some (.bool srv) := by
     have h1 := below_cell ((Below.refl wr.heap.size wr).alloc (Nat.le_refl _) (.cells #[.int .u8 8] 5)) HB.out.2.1 (cell_lt HB.out.2.1)
     exact (World.cell?_of_block (g4.block _ (cell_lt h1) (fun e => by have h9 : w.heap.size + 1 ≤ w.heap.size := hne4 _ e.symm; omega))).trans h1
    have h34 : (l ++ [8]).length = 34 := by have := HB.out.2.2; rw [List.length_append]; simp; omega
    have o4' : OwnB w4 (w.heap.size + 1) (.slice a4 (l ++ [8]).length c4) (l ++ [8]) := o4
    clear o4
    generalize l ++ [8] = l4 at *
    have O4 := Lib.hid o4'
    have B4 := Lib.hid (And.intro b4 (And.intro hc4 h34))
    have HW4 := Lib.hid (show w.heap.size + 1 ≤ w4.heap.size from cell_lt hc4)
    clear o4' g4 hne4 al b4 hc4 h34 hlt0
    go_wp2_with (at_builtin; refine Classical.byContradiction ?_)
    intro hh; apply hh; clear hh
    refine app_sl rfl _ _ 22 rfl (w.heap.size + 1) 5 i0 Tryz.underlying22 hi hz0 hz1 hz2 (.slice a4 l4.length c4) l4 rfl O4.out (.slice vo il.length vc) il rfl (HR.out.2.2.2.below B4.out.1) (by have := B4.out.2.2; have := HR.out.2.1; omega) HW4.out ?_
    intro v5 w5 o5 g5
    have hne5 : ∀ q, (Value.slice a4 l4.length c4).ownBlock = some q → w.heap.size + 1 ≤ q := fun q e => (O4.out.lt q e).1
    have b5 : Below w.heap.size w w5 := below_grown B4.out.1 g5 (fun q e => by have := hne5 q e; omega) B4.out.1.size
    have hc5 : w5.cell? ⟨w.heap.size, 0, none⟩ = some (.bool srv) := (World.cell?_of_block (g5.block _ (cell_lt B4.out.2.1) (fun e => by have h9 : w.heap.size + 1 ≤ w.heap.size := hne5 _ e.symm; omega))).trans B4.out.2.1
    have h42 : (l4 ++ il).length = 33 + 9 * 1 := by have := B4.out.2.2; have := HR.out.2.1; rw [List.length_append]; omega
    have O5 := Lib.hid (And.intro o5 (And.intro hc5 (And.intro b5 h42)))
    clear o5 g5 hne5 b5 hc5 h42
    go_wp2_with fail
    exact ⟨⟨1, l4 ++ il, by omega, rfl, O5.out.2.2.2, O5.out.1, O5.out.2.1, O5.out.2.2.1⟩, by simp [intOf]⟩
   obtain rfl : k = 1 := by omega
   have HO := Lib.hid ho
   have HB := Lib.hid (And.intro hb hl)
   cases srv
   ·clear ho hb hl hk0 hk
    go_wp2_with fail
    refine (piece_any 1 l (by have := HB.out; omega) _ wr (Own.sl HO.out)).mono ?_
    rintro e w5 ⟨⟨v5, l5, rfl, hl5, o5⟩, b5⟩
    have H5 := Lib.hid (And.intro hl5 (And.intro (own_lower o5 HB.out.1.size) (HB.out.1.trans (b5.mono HB.out.1.size))))
    clear hl5 o5 b5 hc
    go_wp2_with fail
    go_ret2
    exact ⟨⟨v5, l5, rfl, by have := H5.out.1; have := HB.out.2; omega, H5.out.2.1⟩, H5.out.2.2⟩
   ·clear ho hb hl hk0 hk
    go_wp2_with fail
    refine (piece_any 2 l (by have := HB.out; omega) _ wr (Own.sl HO.out)).mono ?_
    rintro e w5 ⟨⟨v5, l5, rfl, hl5, o5⟩, b5⟩
    have H5 := Lib.hid (And.intro hl5 (And.intro (own_lower o5 HB.out.1.size) (HB.out.1.trans (b5.mono HB.out.1.size))))
    clear hl5 o5 b5 hc
    go_wp2_with fail
    go_ret2
    exact ⟨⟨v5, l5, rfl, by have := H5.out.1; have := HB.out.2; omega, H5.out.2.1⟩, H5.out.2.2⟩
end Go.Proofs.YthjbmggpleliaaaGreatDoor

end
