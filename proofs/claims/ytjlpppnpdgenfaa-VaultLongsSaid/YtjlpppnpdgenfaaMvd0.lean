/- VltQ; VltQ2; LibV; LibSr; LibSs; VltJ. -/
import Derived.Test.YtjlpppnpdgenfaaMvbLibF
import Derived.Test.YtjlpppnpdgenfaaMvbLibX
import Derived.Test.YtjlpppnpdgenfaaMvbVltR
import Derived.Great.BuildSlice
import Derived.Test.YtjlpppnpdgenfaaMvb15
import Derived.Test.YtjlpppnpdgenfaaMvbLibM
import Derived.Test.YtjlpppnpdgenfaaMvb23
section
namespace Go.Rg
open Go Go.RowKit Go.Rw
theorem exec_len {P : Program} {o : Oper} {a : Act} {w : World} {K : Act → World → Prop} {x : Operand} {ts : Array TypeId} {v : Value} {n : Int} (ho : o.op = .call { callee := .builtin .len, args := #[x], argTypes := ts }) (ha : a.eval x = v) (hl : (Builtin.len_ ts o.type #[v]).run P w = .ok (.int .i64 n) w) (h : K (a.put o.dst (.int .i64 n)) w) : o.wp P a w K NoQ := by
 refine exec_value (v := .int .i64 n) (w' := w) ?_ h
 generalize a.eval = ρ at ha
 simp [go_sem, execOp, ho, ha, hl]
theorem exec_slice {P : Program} {o : Oper} {a : Act} {w : World} {K : Act → World → Prop} {x y : Operand} {t : TypeId} {xv yv v : Value} (ho : o.op = .slice t x none (some y) none) (ha : a.eval x = xv) (hb : a.eval y = yv) (hs : (Instr.sliceAt t xv none (some yv) none).run P w = .ok v w) (h : K (a.put o.dst v) w) : o.wp P a w K NoQ := by
 refine exec_value (v := v) (w' := w) ?_ h
 generalize a.eval = ρ at ha hb
 simp [execOp, ho, ha, hb, hs, Result.andThen]
end Go.Rg

end
section
namespace Vlt
open Go Go.Rw Aes Hdr Gcm
theorem take_agree (b : List UInt8) (j : Nat) : Agree b (b.take j) j := by
 intro i h1 h2
 unfold nth
 rw [List.getElem?_take, if_pos h2]
theorem Agree.le {b c : List UInt8} {n m : Nat} (h : Agree b c n) (hm : m ≤ n) : Agree b c m := fun i h1 h2 => h i h1 (by omega)
theorem lPart_cut {b : List UInt8} {i at1 j : Nat} {eight : Bool} {d : List UInt8} (h1 : 1 ≤ i) (hb : at1 ≤ b.length) (hl : lPart b i eight = .ok (d, at1)) : lPart (b.take j) i eight = .error 3 ∨ (at1 ≤ j ∧ lPart (b.take j) i eight = .ok (d, at1)) := by
 by_cases hj : at1 ≤ j
 ·exact .inr ⟨hj, (lPart_agree ((take_agree b j).le hj) hb (by simp; omega) h1 hl (Nat.le_refl _)).1⟩
 ·refine .inl ?_
  have hlt := lPart_lt hl
  unfold lPart at hl ⊢
  split at hl
  ·cases hl
  rename_i q1
  split at hl
  ·cases hl
  rename_i q2
  split at hl
  ·cases hl
  injection hl with hl
  injection hl with _ hl
  by_cases h0 : (b.take j).length ≤ i
  ·rw [if_pos h0]
  rw [if_neg h0]
  have hn : nth (b.take j) i = nth b i := by
   unfold nth
   rw [List.getElem?_take, if_pos (by simp at h0; omega)]
  rw [hn, if_neg q2, if_pos (by simp; omega)]
theorem vget_cut {b : List UInt8} {i j : Nat} (h1 : 1 ≤ i) (h0 : (vget (b.drop i)).2.2 = 0) : (vget ((b.take j).drop i)).2.2 = 3 ∨ (i + (vget (b.drop i)).2.1 ≤ j ∧ vget ((b.take j).drop i) = vget (b.drop i)) := by
 by_cases hj : i + (vget (b.drop i)).2.1 ≤ j
 ·have hm := vget_many (b.drop i)
  have hd : (b.drop i).length = b.length - i := by simp
  have hp : 1 ≤ (vget (b.drop i)).2.1 := by
   unfold vget at h0 ⊢
   split at h0
   ·simp at h0
   ·rename_i q; rw [if_neg q]; exact vmany_pos _
  exact .inr ⟨hj, vget_agree ((take_agree b j).le hj) (by omega) (by simp; omega) h1 h0 (Nat.le_refl _)⟩
 ·refine .inl ?_
  unfold vget at h0 hj ⊢
  split at h0
  ·simp at h0
  rename_i q
  rw [if_neg q] at hj
  simp only [] at hj
  by_cases h2 : ((b.take j).drop i).length = 0
  ·rw [if_pos (.inl h2)]
  have hn : nth ((b.take j).drop i) 0 = nth (b.drop i) 0 := by
   unfold nth
   rw [List.getElem?_drop, List.getElem?_take, List.getElem?_drop, if_pos (by simp at h2; omega)]
  have hp := vmany_pos (nth (b.drop i) 0)
  rw [if_pos (.inr (by rw [hn, List.length_drop, List.length_take]; omega))]
theorem lTok_cut {b : List UInt8} {i at1 k j : Nat} {t : List UInt8} (h1 : 1 ≤ i) (hb : at1 ≤ b.length) (hi : i ≤ j) (hl : lTok b k i = .ok (t, at1)) : lTok (b.take j) k i = .error 3 ∨ (at1 ≤ j ∧ lTok (b.take j) k i = .ok (t, at1)) := by
 by_cases hj : at1 ≤ j
 ·exact .inr ⟨hj, (lTok_agree ((take_agree b j).le hj) hb (by simp; omega) h1 hl (Nat.le_refl _)).1⟩
 ·refine .inl ?_
  unfold lTok at hl ⊢
  split at hl
  ·injection hl with hl
   injection hl with _ hl
   omega
  rename_i q1
  split at hl
  ·cases hl
  rename_i q2
  split at hl
  ·cases hl
  rename_i q3
  split at hl
  ·cases hl
  injection hl with hl
  injection hl with _ hl
  rw [if_neg q1]
  rcases vget_cut (j := j) h1 (Decidable.of_not_not q2) with h | ⟨_, h⟩
  ·rw [if_pos (by rw [h]; decide), h]
  ·rw [h, if_neg q2, if_neg q3, if_pos (by simp; omega)]
theorem lead_cut {b : List UInt8} {m : Bool} {h : Hd} {at_ told j : Nat} (hl : lead b m = .ok (h, at_, told)) (hlg : h.long = true) (hb : at_ + told ≤ b.length) : lead (b.take j) m = .error 3 ∨ lead (b.take j) m = .ok (h, at_, told) := by
 unfold lead at hl
 split at hl
 ·cases hl
 split at hl
 ·cases hl
 rename_i q0 q64
 split at hl
 ·split at hl
  ·cases hl
  split at hl
  ·cases hl
  injection hl with hl
  injection hl with e1 e2
  subst e1
  cases hlg
 ·rename_i q128
  split at hl
  ·cases hl
  rename_i qk
  split at hl
  ·cases hl
  rename_i q5
  unfold lead
  by_cases h0 : (b.take j).length = 0
  ·rw [if_pos h0]; exact .inl rfl
  rw [if_neg h0]
  have hn : nth (b.take j) 0 = nth b 0 := by
   unfold nth
   rw [List.getElem?_take, if_pos (by simp at h0; omega)]
  rw [hn, if_neg q64, if_neg q128, if_neg qk]
  by_cases h5 : (b.take j).length < 5
  ·rw [if_pos h5]; exact .inl rfl
  rw [if_neg h5]
  have hj5 : 5 ≤ j := by simp at h5; omega
  have hc : ((b.take j).drop 1).take 4 = (b.drop 1).take 4 := agree_cut ((take_agree b j).le hj5) (by omega) (by simp; omega) (by omega) (by omega)
  rw [hc]
  cases hl1 : lPart b 5 true with
  | error e => rw [hl1] at hl; cases hl
  | ok da =>
  obtain ⟨d, at1⟩ := da
  rw [hl1] at hl
  simp only [] at hl
  cases hl2 : lPart b at1 false with
  | error e => rw [hl2] at hl; cases hl
  | ok sa =>
  obtain ⟨sr, at2⟩ := sa
  rw [hl2] at hl
  simp only [] at hl
  cases hl3 : lTok b (n8 (nth b 0) / 16 % 4) at2 with
  | error e => rw [hl3] at hl; cases hl
  | ok ta =>
  obtain ⟨t, at3⟩ := ta
  rw [hl3] at hl
  simp only [] at hl
  unfold lTail at hl
  split at hl
  ·cases hl
  rename_i qv
  injection hl with hl
  injection hl with e1 e2
  injection e2 with e2 e3
  have g1 := lPart_lt hl1
  have g2 := lPart_lt hl2
  have g3 := lTok_ge hl3
  rcases lPart_cut (j := j) (by omega) (by omega) hl1 with h | ⟨k1, h⟩
  ·rw [h]; exact .inl rfl
  rw [h]
  simp only []
  rcases lPart_cut (j := j) (by omega) (by omega) hl2 with h | ⟨k2, h⟩
  ·rw [h]; exact .inl rfl
  rw [h]
  simp only []
  rcases lTok_cut (j := j) (by omega) (by omega) k2 hl3 with h | ⟨k3, h⟩
  ·rw [h]; exact .inl rfl
  rw [h]
  simp only []
  unfold lTail
  rcases vget_cut (j := j) (i := at3) (by omega) (Decidable.of_not_not qv) with h | ⟨_, h⟩
  ·rw [if_pos (by rw [h]; decide), h]; exact .inl rfl
  ·rw [h, if_neg qv, e1, e2, e3]; exact .inr rfl
theorem pack_lead {msk H C : List UInt8} {tl : Nat} {hd : Hd} {nl : Nat} (hlen : H.length + (tl + 16) ≤ 1000000) (hsl : C.length = tl + 16)
  (hg : get (H ++ C) = (hd, H.length, tl + 16, 0)) (hnl : hd.nl = (nl : Nat)) (h1 : 1 ≤ nl) (h4 : nl ≤ 4) (ht : 4 ≤ nl + tl) :
  ∃ h at_ told, lead (maskW msk (H ++ C) (H.length - nl) nl) true = .ok (h, at_, told) ∧ h.long = hd.long ∧ at_ + told = (H ++ C).length := by
 obtain ⟨h, at_, told, hle, hm, hhd, hre, hb1, hb2, hb3⟩ := lead_of_get (by simp; omega) hg
 have hnl2 : h.nl = (nl : Nat) := by rw [hhd] at hnl; exact hnl
 rw [hnl2, Int.toNat_natCast] at hm hre hb2 hhd
 have hat : H.length - nl = at_ := by omega
 rw [hat]
 have htold : told = tl + 16 + nl := by omega
 have ha5 := (lead_facts hle).1
 have hl0 : (H ++ C).length = at_ + told := by rw [List.length_append]; omega
 have hag0 := maskW_agree msk (H ++ C) at_ nl h4 (by omega)
 have h00 := maskW_0 msk (H ++ C) at_ nl (by omega) h4 (by omega)
 have hbl : (maskW msk (H ++ C) at_ nl).length = at_ + told := by rw [maskW_length, hl0]
 have hst : SameTop (nth (H ++ C) 0) (nth (maskW msk (H ++ C) at_ nl) 0) := by rw [h00]; exact sameTop _ _
 obtain ⟨-, -, -, -, hlb⟩ := lead_agree2 hle hag0 (by omega) (by omega) (fun hh => by omega) hst
 refine ⟨_, at_, told, hlb, ?_, hl0.symm⟩
 rw [hhd]
 rfl
theorem open_cut {key iv msk : List UInt8} {kind : Int} {ver : Nat} {dst src tok : List UInt8} {sp ph : Bool} {u : UInt64} {n : Nat} {text B : List UInt8} {largest : Nat} {any : Bool} (h : sealR key iv msk true kind ver dst src tok sp ph u n text = (B, 0)) (hver : ver < 4294967296) (j : Nat) (hj : j < B.length) :
  openV key iv msk (B.take j) largest any = (hd0, [], 3) := by
 obtain ⟨n', hn, hm, h4, h2, rfl⟩ := sealR_yes h
 obtain rfl : n' = n := by omega
 obtain ⟨f1, f2, f3, f4, f5, f6, -, -⟩ := may_facts hm
 have hl := (headB_length (lg := true) (kind := kind) (ver := ver) (dst := dst) (src := src) (tok := tok) (sp := sp) (ph := ph) (num := n64 u) (nl := n') (rest := text.length + 16) f4 f5 f6 (by omega)).2
 have hg := head_get hm hver (R := text.length + 16) (by omega) (sealed key (nonce iv u) text (headB true kind ver dst src tok sp ph (n64 u) n' (text.length + 16))) [] (sealed_length ..) (fun _ => rfl)
 rw [List.append_nil] at hg
 obtain ⟨hh, at_, told, hle, hlg, hal⟩ := pack_lead (msk := msk) (by omega) (sealed_length ..) hg rfl (by omega) (by omega) (by omega)
 rw [packB_length] at hj
 rw [List.length_append, sealed_length] at hal
 unfold openV packB
 rcases lead_cut (j := j) hle hlg (by rw [maskW_length, List.length_append, sealed_length]; omega) with e | e
 ·rw [e]
 ·rw [e]
  simp only []
  rw [if_pos (.inr (by simp; omega))]
end Vlt

end
section
namespace Vlt
open Go Go.Rw Aes Hdr Gcm
def d8 : List UInt8 := [49, 50, 51, 52, 53, 54, 55, 56]
def s3 : List UInt8 := [97, 98, 99]
theorem full_same {n : Nat} (h : n < 4294967296) : full (n % 256 ^ 4) (4 : Nat) n true = n := by
 unfold full
 rw [if_neg (by omega), if_pos rfl]
 have hw : wide ((4 : Nat) : Int) = 4294967296 := by decide
 rw [hw]
 unfold fullW
 have e : n % 256 ^ 4 % 4294967296 = n := by omega
 simp only [e]
 repeat' split
 all_goals omega
theorem longs_seal (key iv msk : List UInt8) {ver : Nat} {u : UInt64} {tok text : List UInt8} (hv : ver < 4294967296) (hu : n64 u < 4294967296) (ht : tok.length ≤ 30) (h4 : 4 ≤ text.length) (h60 : text.length ≤ 60) :
  ∃ S, sealR key iv msk true 0 ver d8 s3 tok false false u 4 text = (S, 0) ∧ 40 ≤ S.length ∧ S.length ≤ 600 ∧
   (∀ z : List UInt8, z.length ≤ 30 → openV key iv msk (S ++ z) (n64 u) true = (⟨true, 0, ver, d8, s3, tok, false, false, n64 u, 4⟩, text, 0)) ∧
   ∀ j, j < S.length → openV key iv msk (S.take j) (n64 u) true = (hd0, [], 3) := by
 have hm : mayN true 0 ver d8.length s3.length tok.length false false (n64 u) ((4 : Nat) : Int) = true := by
  unfold mayN
  rw [if_neg (by have : d8.length = 8 := rfl; omega), if_neg (by decide)]
  have : s3.length = 3 := rfl
  exact decide_eq_true ⟨.inl rfl, by omega, by omega, rfl, rfl⟩
 have hs := sealR_ok (key := key) (iv := iv) (msk := msk) (text := text) hm (by omega) (by omega)
 have hl1 := (headB_length (lg := true) (kind := 0) (ver := ver) (dst := d8) (src := s3) (tok := tok) (sp := false) (ph := false) (num := n64 u) (nl := 4) (rest := text.length + 16) rfl (by decide) (by omega) (by omega)).2
 have hl0 : 24 ≤ (headB true 0 ver d8 s3 tok false false (n64 u) 4 (text.length + 16)).length := by
  unfold headB longB
  rw [if_pos rfl]
  simp [be_length, vin_length, d8, s3]; omega
 have hlen := packB_length key iv msk (headB true 0 ver d8 s3 tok false false (n64 u) 4 (text.length + 16)) text u 4
 refine ⟨_, hs, by rw [hlen]; omega, by rw [hlen]; omega, fun z hz => ?_, fun j hj => ?_⟩
 ·exact open_sealR (n := 4) hs hv (fun h => by cases h) (by omega) (full_same hu)
 ·exact open_cut (n := 4) hs hv j hj
end Vlt

end
section
namespace Go.Rg
open Go Go.RowKit Go.Rw
variable {P : Program}
theorem run_exec_load {o : Oper} {ρ : Operand → Value} {w : World} {t : TypeId} {x : Operand} {xv v : Value} (ho : o.op = .load t x) (hx : ρ x = xv) (hs : (Instr.loadAt t xv).run P w = .ok v w) : (execOp ρ o).run P w = .ok (.value v) w := by
 simp only [execOp, ho, hx, Sem.run_bind, hs, Result.andThen_ok]
 rfl
theorem run_exec_alloc {o : Oper} {ρ : Operand → Value} {w w' : World} {t : TypeId} {v : Value} (ho : o.op = .alloc t) (hs : (Instr.alloc t true (.tuple #[])).run P w = .ok v w') : (execOp ρ o).run P w = .ok (.value v) w' := by
 simp only [execOp, ho, Sem.run_bind, hs, Result.andThen_ok]
 rfl
end Go.Rg

end
section
namespace Go.Rg
open Go Go.RowKit Go.Rw
variable {P : Program}
def dstOk (o : Oper) (d : Tmp) : Bool := o.dst == some d || o.dst == none
def floR9 (ops : Array Oper) (R : List (Nat × Tmp × List Nat)) (tail : List Nat) : Bool :=
 R.all fun r => (match ops[r.1]? with
  | some o => dstOk o r.2.1 && o.guard.isNone && !tail.contains r.1 && r.2.2.all (fun x => Region.waitsFor .any ops r.1 x) && o.after.all fun e => !Region.binds .any e || (decide (e.on < ops.size) && !tail.contains e.on && (!(R.map (·.1)).contains e.on || decide (e.on < r.1)))
  | none => false) && tail.all fun t => behindB .any ops 8 t r.1
theorem wpAnyX_inv9 {ops : Array Oper} {Q : Exit → Act → World → Prop} {R : List Flo} {X tail : List Nat} {a0 : Act} {w0 : World} {L0 : Array Bool} {I : Inv} (ph : PhaseI P ops Q R X tail a0 w0 I) (ph_deps : depsIn R = true) (_ : ∀ t ∈ tail, X.contains t = true)
  (hni : (R.map (·.i)).Nodup) (hnd : (R.map (·.d)).Nodup) (hR : floR9 ops (R.map key) tail = true) (hL : floL (R.map key) tail L0 = true) (hsz : L0.size = ops.size)
  (hT : tailB .any ops X tail tail.length (setAll (R.map (·.i)) L0) = true) :
  ∀ (n : Nat) (S : List Nat) (L : Array Bool) (us : Nat → Value) (w : World), S.length = n → S.Nodup → (∀ s ∈ S, s ∈ R.map (·.i)) → L.size = ops.size →
   (∀ j, j < ops.size → L.getD j false = (!(S.contains j || tail.contains j))) → Shut .any ops L →
   I (fun j => (R.map (·.i)).contains j && !S.contains j) us w →
   wpAnyX P .any ops (Calm Q) (fun i => X.contains i) (n + tail.length) L (puts us R a0) w := by
 have hkey : (R.map key).map (·.1) = R.map (·.i) := by simp [key]
 intro n
 induction n with
 | zero =>
  intro S L us w hS _ _ hLs hLv _ hI
  obtain rfl : S = [] := List.eq_nil_of_length_eq_zero hS
  have hLe : L = setAll (R.map (·.i)) L0 := by
   apply Array.ext (by rw [setAll_size, hLs, hsz])
   intro j h1 h2
   have e1 := hLv j (by omega)
   have e2 := setAll_getD (R.map (·.i)) L0 j (by omega)
   have hlj := List.all_eq_true.1 hL j (by simp; omega)
   rw [hkey] at hlj
   have e3 : L.getD j false = (setAll (R.map (·.i)) L0).getD j false := by
    rw [e1, e2]
    by_cases hc : tail.contains j = true
    ·have hnr : (R.map (·.i)).contains j = false := by
      cases hq : (R.map (·.i)).contains j with
      | false => rfl
      | true =>
       exfalso
       obtain ⟨r, hr, hrj⟩ := List.mem_map.1 (by simpa using hq : j ∈ R.map (·.i))
       have := List.all_eq_true.1 hR (key r) (List.mem_map_of_mem hr)
       simp only [Bool.and_eq_true] at this
       have h3 := this.1
       split at h3
       ·simp only [Bool.and_eq_true, key] at h3
        have h4 := h3.1.1.2
        rw [hrj, hc] at h4; simp at h4
       ·cases h3
     rw [hnr, hc] at hlj
     have hf : L0.getD j true = false := by
      cases hq : L0.getD j true with
      | false => rfl
      | true => rw [hq] at hlj; simp at hlj
     rw [hnr, hc, getD_both hf]; rfl
    ·have hc' : tail.contains j = false := by simpa using hc
     rw [hc']
     cases hq : (R.map (·.i)).contains j
     ·rw [hq, hc'] at hlj
      have hf : L0.getD j false = true := by
       cases hq2 : L0.getD j false with
       | true => rfl
       | false => rw [hq2] at hlj; simp at hlj
      rw [hf]; rfl
     ·rfl
   simpa [h1, h2] using e3
  rw [hLe, Nat.zero_add]
  exact wpAnyX_tail tail _ _ _ _ hT (ph.last _ us w (fun r hr => by simp; exact ⟨r, hr, rfl⟩) hI)
 | succ n ih =>
  intro S L us w hS hSn hSR hLs hLv hSh hI
  rw [show n + 1 + tail.length = (n + tail.length) + 1 by omega]
  have inR : ∀ s ∈ S, ∃ r ∈ R, r.i = s := fun s hs => by
   obtain ⟨r, hr, e⟩ := List.mem_map.1 (hSR s hs)
   exact ⟨r, hr, e⟩
  have facts : ∀ r ∈ R, ∃ o, ops[r.i]? = some o ∧ dstOk o r.d = true ∧ o.guard = none ∧ tail.contains r.i = false ∧ (∀ x ∈ r.deps, Region.waitsFor .any ops r.i x = true) ∧
    (∀ e ∈ o.after, Region.binds .any e = true → e.on < ops.size ∧ tail.contains e.on = false ∧ ((R.map (·.i)).contains e.on = true → e.on < r.i)) ∧ (∀ t ∈ tail, behindB .any ops 8 t r.i = true) := fun r hr => by
   have h1 := List.all_eq_true.1 hR (key r) (List.mem_map_of_mem hr)
   rw [hkey] at h1
   simp only [Bool.and_eq_true, key] at h1
   obtain ⟨h1, h2⟩ := h1
   cases ho : ops[r.i]? with
   | none => rw [ho] at h1; cases h1
   | some o =>
    rw [ho] at h1
    simp only [Bool.and_eq_true, beq_iff_eq, Option.isNone_iff_eq_none, Bool.not_eq_true', List.all_eq_true, Array.all_eq_true', Bool.or_eq_true, decide_eq_true_eq] at h1
    refine ⟨o, rfl, h1.1.1.1.1, h1.1.1.1.2, h1.1.1.2, h1.1.2, fun e he hbd => ?_, List.all_eq_true.1 h2⟩
    rcases h1.2 e he with h | h
    ·rw [hbd] at h; cases h
    ·exact ⟨h.1.1, h.1.2, fun hc => by
      rcases h.2 with h' | h'
      ·rw [hc] at h'; cases h'
      ·exact of_decide_eq_true h'⟩
  refine ⟨fun h0 => ?_, fun i hi => ?_⟩
  ·exfalso
   obtain ⟨m, hm, hle⟩ := exists_least S (by intro e; subst e; simp at hS)
   obtain ⟨r, hr, rfl⟩ := inR m hm
   obtain ⟨o, ho, -, -, -, -, hafter, -⟩ := facts r hr
   have hlt : r.i < ops.size := (Array.getElem?_eq_some_iff.1 ho).1
   have hrd : r.i ∈ Region.ready .any ops L := by
    rw [mem_ready]
    refine ⟨getD_in (by omega) (by rw [hLv _ hlt]; simp [hm]), o, ho, fun e he hbd => ?_⟩
    obtain ⟨h1, h2, h3⟩ := hafter e he hbd
    rw [hLv _ h1, h2]
    have : S.contains e.on = false := by
     cases hq : S.contains e.on with
     | false => rfl
     | true =>
      exfalso
      have hq' : e.on ∈ S := by simpa using hq
      have := h3 (by simpa using hSR _ hq')
      have := hle _ hq'
      omega
    rw [this]; rfl
   rw [h0] at hrd; cases hrd
  ·obtain ⟨hun, oi, hoi, hall⟩ := mem_ready.1 hi
   have hilt : i < ops.size := (Array.getElem?_eq_some_iff.1 hoi).1
   have hi0 := getD_both hun
   rw [hLv i hilt] at hi0
   have hiS : i ∈ S := by
    cases hq : S.contains i with
    | true => simpa using hq
    | false =>
     exfalso
     rw [hq] at hi0
     have hit : i ∈ tail := by simpa using hi0
     obtain ⟨m, hm, _⟩ := exists_least S (by intro e; subst e; simp at hS)
     obtain ⟨r, hr, rfl⟩ := inR m hm
     obtain ⟨o, ho, -, -, -, -, -, hbh⟩ := facts r hr
     have hl := Shut.behind hSh 8 i (hbh i hit) (fun o' ho' e he hbb => hall e (by rw [hoi] at ho'; cases ho'; exact he) hbb)
     rw [hLv _ (Array.getElem?_eq_some_iff.1 ho).1] at hl
     simp [hm] at hl
   obtain ⟨r, hr, rfl⟩ := inR i hiS
   obtain ⟨o, ho, hdst, hgd, hnt, hdeps, hafter, hbh⟩ := facts r hr
   obtain rfl : oi = o := Option.some.inj (hoi.symm.trans ho)
   have hget : ops.toList.getD r.i default = oi := by simp [ho]
   unfold wpOp
   simp only [ho]
   rw [if_pos (by simp [Region.wanted, hgd])]
   refine .inl (upon_monoQ (Q := NoQ) (fun _ _ _ h => h.elim) ?_)
   have hx := ph.exec r hr (fun j => (R.map (·.i)).contains j && !S.contains j) us w (by simp [hiS]) (fun d hd => ?_) hI (fun a' w' => (X.contains r.i = false → Keep w w') ∧ wpAnyX P .any ops (Calm Q) (fun i => X.contains i) (n + tail.length) (L.setIfInBounds r.i true) a' w') ?_
   ·rw [hget] at hx; exact hx
   ·obtain ⟨oj, hoj, e, he, hbd, hon⟩ := Region.waitsFor_spec (hdeps d hd)
    obtain rfl : oj = oi := Option.some.inj (hoj.symm.trans ho)
    have hl := hall e he hbd
    rw [hon] at hl
    have hd2 := hafter e he hbd
    rw [hon] at hd2
    rw [hLv _ hd2.1] at hl
    have hns : S.contains d = false := by
     cases hq : S.contains d with
     | false => rfl
     | true => rw [hq] at hl; simp at hl
    have hdr : (R.map (·.i)).contains d = true := by
     have := List.all_eq_true.1 (List.all_eq_true.1 ph_deps r hr) d hd
     exact this
    simp only [hns, hdr]; rfl
   ·intro v w' hI' hk
    refine ⟨fun hx => by
     rcases hk with h | h
     ·rw [h] at hx; cases hx
     ·exact h, ?_⟩
    rw [puts_upd us R a0 r v hr hni hnd]
    have hin : ∀ x, x ∈ S.erase r.i ↔ x ≠ r.i ∧ x ∈ S := fun x => hSn.mem_erase_iff
    refine ih (S.erase r.i) _ (upd us r.i v) w' (by rw [List.length_erase_of_mem hiS, hS]; rfl) (hSn.erase _) (fun s hs => hSR s ((hin s).1 hs).2) (by simpa using hLs) ?_ (hSh.set hi) ?_
    ·intro j hj
     by_cases e : r.i = j
     ·subst e
      have : (S.erase r.i).contains r.i = false := by
       cases hq : (S.erase r.i).contains r.i with
       | false => rfl
       | true => exact absurd rfl ((hin _).1 (by simpa using hq)).1
      rw [this, hnt]; simp [hLs, hj]
     ·rw [getD_set_ne false e, hLv j hj]
      have : (S.erase r.i).contains j = S.contains j := by
       rw [Bool.eq_iff_iff]; simp only [List.contains_iff_mem]
       rw [hin]; exact ⟨fun h => h.2, fun h => ⟨fun x => e x.symm, h⟩⟩
      rw [this]
    ·have : (fun j => (R.map (·.i)).contains j && !(S.erase r.i).contains j) = updB (fun j => (R.map (·.i)).contains j && !S.contains j) r.i := by
      funext j
      unfold updB
      by_cases e : j = r.i
      ·subst e
       have h1 : (S.erase r.i).contains r.i = false := by
        cases hq : (S.erase r.i).contains r.i with
        | false => rfl
        | true => exact absurd rfl ((hin _).1 (by simpa using hq)).1
       have h2 : (R.map (·.i)).contains r.i = true := by simp; exact ⟨r, hr, rfl⟩
       rw [if_pos rfl, h1, h2]; rfl
      ·have h1 : (S.erase r.i).contains j = S.contains j := by
        rw [Bool.eq_iff_iff]; simp only [List.contains_iff_mem]
        rw [hin]; exact ⟨fun h => h.2, fun h => ⟨e, h⟩⟩
       rw [if_neg e, h1]
     rw [this]; exact hI'
def preB9 (ops : Array Oper) (R : List (Nat × Tmp × List Nat)) (X tail : List Nat) : List (Nat × Nat) → Nat → Array Bool → Bool
 | [], f, listed => decide (f = R.length + tail.length) && floL R tail listed && tailB .any ops X tail tail.length (setAll (R.map (·.1)) listed)
 | _ :: _, 0, _ => false
 | (i, k) :: p, f + 1, listed => !X.contains i && (Region.ready .any ops listed).contains i && Region.free .any ops listed i && (k == 3 || (k == 0 && X.all fun x => behindB .any ops 6 x i)) && preB9 ops R X tail p f (listed.setIfInBounds i true)
def invB9 (ops : Array Oper) (pre : List (Nat × Nat)) (R : List (Nat × Tmp × List Nat)) (X tail : List Nat) : Bool :=
 Region.noSelect ops && decide (R.map (·.1)).Nodup && decide (R.map (·.2.1)).Nodup && floR9 ops R tail && tail.all (fun t => X.contains t) && preB9 ops R X tail pre ops.size (Array.replicate ops.size false)
theorem wpAnyX_pre9 {ops : Array Oper} {Q : Exit → Act → World → Prop} {R : List Flo} {X tail : List Nat} (hsel : Region.noSelect ops = true) (hd : depsIn R = true) (hX : ∀ t ∈ tail, X.contains t = true) (hni : (R.map (·.i)).Nodup) (hnd : (R.map (·.d)).Nodup) (hR : floR9 ops (R.map key) tail = true) :
  ∀ (p : List (Nat × Nat)) (f : Nat) (listed : Array Bool) (a : Act) (w : World), Shut .any ops listed → listed.size = ops.size →
   preB9 ops (R.map key) X tail p f listed = true → wpPlan P ops (fun _ a' w' => ∃ I, PhaseI P ops Q R X tail a' w' I) ((row p []).map fun i => ops.toList.getD i default) a w →
   wpAnyX P .any ops (Calm Q) (fun i => X.contains i) f listed a w
 | [], f, listed, a, w, inv, hsz, hB, h => by
  simp only [preB9, Bool.and_eq_true, decide_eq_true_eq] at hB
  obtain ⟨⟨hf, hL⟩, hT⟩ := hB
  have hkey : (R.map key).map (·.1) = R.map (·.i) := by simp [key]
  rw [hkey] at hT
  obtain ⟨I, ph⟩ : ∃ I, PhaseI P ops Q R X tail a w I := h
  obtain ⟨us, hus⟩ := puts_self hni a
  have := wpAnyX_inv9 ph hd hX hni hnd hR hL hsz hT (R.map (·.i)).length (R.map (·.i)) listed us w rfl hni (fun _ h => h) hsz ?_ inv ?_
  ·rw [hus] at this
   rw [hf]; simpa using this
  ·intro j hj
   have h1 := List.all_eq_true.1 hL j (by simp; omega)
   rw [hkey] at h1
   cases hq : ((R.map (·.i)).contains j || tail.contains j)
   ·rw [hq] at h1; simpa using h1
   ·rw [hq] at h1
    have : listed.getD j true = false := by
     cases hq2 : listed.getD j true with
     | false => rfl
     | true => rw [hq2] at h1; simp at h1
    rw [getD_both this]; rfl
  ·have : (fun j => (R.map (·.i)).contains j && !(R.map (·.i)).contains j) = fun _ => false := by
    funext j; cases (R.map (·.i)).contains j <;> rfl
   rw [this]; exact ph.init us
 | _ :: _, 0, _, _, _, _, _, hB, _ => by simp [preB9] at hB
 | (i, k) :: p, f + 1, listed, a, w, inv, hsz, hB, h => by
  simp only [preB9, Bool.and_eq_true, Bool.not_eq_true', Bool.or_eq_true, beq_iff_eq] at hB
  obtain ⟨⟨⟨⟨hXi, hr⟩, hf⟩, hk⟩, hB'⟩ := hB
  simp only [row, PT.map, wpPlan] at h
  have hi := get_ready (i := i) (by simpa using hr)
  have hr' : i ∈ Region.ready .any ops listed := by simpa using hr
  rcases hk with rfl | ⟨rfl, hb⟩
  ·have takeP : ∀ v, YieldsIf P ops (fun _ => True) (ops.toList.getD i default) v a → wpPlan P ops (fun _ a' w' => ∃ I, PhaseI P ops Q R X tail a' w' I) ((row p []).map fun i => ops.toList.getD i default) (a.put (ops.toList.getD i default).dst v) w →
     wpAnyX P .any ops (Calm Q) (fun i => X.contains i) (f + 1) listed a w := fun v hy hK =>
    wpAnyX_first (G := fun _ _ => True) (fun _ => trivial) hi (Region.noSelect_spec hsel) hXi (fun _ _ _ h => h) (fun h _ => h) (fun _ _ _ _ _ _ => trivial)
     _ listed a w inv (Region.free_spec hi hf) hr' hy
     (wpAnyX_pre9 hsel hd hX hni hnd hR p f _ _ _ (inv.set hr') (by simpa using hsz) hB' hK)
   by_cases hw : Region.wanted (ops.toList.getD i default) (yielded ops a.tmps) = true
   ·simp only [hw, if_true] at h
    obtain ⟨s, hs, he⟩ := firm_of_pureB (R := fun _ _ => True) h.1
    obtain ⟨v, hy, hK⟩ := taken hs he hw h.2
    exact takeP v hy hK
   ·simp only [hw] at h
    exact takeP undef (.inr ⟨by simpa using hw, rfl⟩) h
  ·have takeK : ∀ v, YieldsIf P ops (Keep w) (ops.toList.getD i default) v a → wpPlan P ops (fun _ a' w' => ∃ I, PhaseI P ops Q R X tail a' w' I) ((row p []).map fun i => ops.toList.getD i default) (a.put (ops.toList.getD i default).dst v) w →
     wpAnyX P .any ops (Calm Q) (fun i => X.contains i) (f + 1) listed a w := fun v hy hK =>
    wpAnyX_first (G := Keep) Keep.refl hi (Region.noSelect_spec hsel) hXi (fun _ _ _ h => h) yieldsIf_keep
     (fun j l2 inv2 hu hj hX => hX (by
      cases hc : X.contains j with
      | false => rfl
      | true =>
       exfalso
       have hbj := List.all_eq_true.1 hb j (by simpa using hc)
       obtain ⟨_, oj, hoj, hall⟩ := mem_ready.1 hj
       have := Shut.behind inv2 6 j hbj (fun o' ho' e he hbb => hall e (by rw [hoj] at ho'; cases ho'; exact he) hbb)
       rw [hu] at this; cases this))
     _ listed a w inv (Region.free_spec hi hf) hr' hy
     (wpAnyX_pre9 hsel hd hX hni hnd hR p f _ _ _ (inv.set hr') (by simpa using hsz) hB' hK)
   by_cases hw : Region.wanted (ops.toList.getD i default) (yielded ops a.tmps) = true
   ·simp only [hw, if_true] at h
    obtain ⟨s, hs, he⟩ := firm_of_firmB h.1
    obtain ⟨v, hy, hK⟩ := taken hs he hw h.2
    exact takeK v hy hK
   ·simp only [hw] at h
    exact takeK undef (.inr ⟨by simpa using hw, rfl⟩) h
theorem wp_region_inv9 {Q : Exit → Act → World → Prop} {id : Nat} {a : Act} {w : World} {l : List Oper} (pre : List (Nat × Nat)) (R : List Flo) (ks : List (Nat × Tmp × List Nat)) (X tail : List Nat) (hm : P.follows .mixedOrders = true)
  (hB : invB9 l.toArray pre ks X tail = true) (hk : R.map key = ks) (hd : depsIn R = true)
  (h : wpPlan P l.toArray (fun _ a' w' => ∃ I, PhaseI P l.toArray Q R X tail a' w' I) ((row pre []).map fun i => l.getD i default) a w.drew) : (Code.region id l.toArray true).wp P Q a w := by
 subst hk
 simp only [invB9, Bool.and_eq_true, decide_eq_true_eq] at hB
 obtain ⟨⟨⟨⟨⟨hsel, hni⟩, hnd⟩, hR⟩, hX⟩, hpre⟩ := hB
 have e1 : (R.map key).map (·.1) = R.map (·.i) := by simp [key]
 have e2 : (R.map key).map (·.2.1) = R.map (·.d) := by simp [key]
 rw [e1] at hni
 rw [e2] at hnd
 have inv0 : Shut .any l.toArray (Array.replicate l.toArray.size false) := ⟨by simp, fun j oj _ hl => (by rw [getD_replicate_false] at hl; cases hl)⟩
 exact wp_region_any hm (wpAny_of_X Calm.imp _ _ _ _ (wpAnyX_pre9 hsel hd (List.all_eq_true.1 hX) hni hnd hR pre _ _ a w.drew inv0 (by simp) hpre h))
abbrev JS := (Nat → Value) → (Nat → Nat) → (Nat → Nat) → World → Prop
structure FloS where
 i : Nat
 d : Tmp
 ds : List Nat
 deps : List Nat
 src : Option Nat
 eats : List Nat
 uses : List Nat
 J : JS
def FloS.flo (r : FloS) : Flo := ⟨r.i, r.d, r.ds, false, fun _ _ => True⟩
structure Spare (l h : Nat) (w w' : World) : Prop where
 os : w'.os = w.os
 tape : w'.tape = w.tape
 output : w'.output = w.output
 size : w.heap.size ≤ w'.heap.size
 block : ∀ k, k < w.heap.size → (k < l ∨ h ≤ k) → w'.heap[k]? = w.heap[k]?
theorem Spare.below {l h N : Nat} {w w' : World} (s : Spare l h w w') (h1 : N ≤ l) (h2 : N ≤ w.heap.size) : Below N w w' :=
 ⟨s.os, s.tape, s.output, s.size, fun k hk => s.block k (by omega) (.inl (by omega))⟩
def updN (f : Nat → Nat) (i v : Nat) (j : Nat) : Nat := if j = i then v else f j
def DepS (RS : List FloS) (w0 : World) (deps : List Nat) (us : Nat → Value) (lo hi : Nat → Nat) (w : World) : Prop :=
 ∀ r' ∈ RS, r'.i ∈ deps → r'.J us lo hi w ∧ ∀ j ∈ r'.uses, w0.heap.size ≤ lo j ∧ lo j ≤ hi j ∧ hi j ≤ w.heap.size
def ExecS (P : Program) (ops : Array Oper) (RS : List FloS) (a0 : Act) (w0 : World) (r : FloS) : Prop :=
 ∀ (us : Nat → Value) (lo hi : Nat → Nat) w, Below w0.heap.size w0 w → DepS RS w0 r.deps us lo hi w → ∀ K : Act → World → Prop,
  (∀ v w', r.J (upd us r.i v) (updN lo r.i w.heap.size) (updN hi r.i w'.heap.size) w' → (r.src = none → Below w.heap.size w w') → (∀ s, r.src = some s → Spare (lo s) (hi s) w w') → K ((puts us (RS.map FloS.flo) a0).put (some r.d) v) w') →
  (ops.toList.getD r.i default).wp P (puts us (RS.map FloS.flo) a0) w K NoQ
def spB (RS : List FloS) (X : List Nat) : Bool :=
 decide (RS.map (·.i)).Nodup && RS.all (fun r => r.deps.all (fun j => r.ds.contains j) && r.uses.contains r.i && r.uses.all (fun j => RS.any fun q => q.i == j) && r.uses.all (fun j => j == r.i || RS.any fun q => r.deps.contains q.i && q.uses.contains j)) &&
 RS.all fun q => (q.eats.all fun s => RS.all fun p => !(p.deps.contains s) || p.i == q.i) && match q.src with
  | none => true
  | some s => q.eats.contains s && q.deps.contains s && X.contains q.i && (RS.any fun r => r.i == s) && RS.all fun p => p.i == s || p.i == q.i || !(p.uses.contains s)
theorem nodupS : ∀ {R : List FloS} {a b : FloS}, (R.map (·.i)).Nodup → a ∈ R → b ∈ R → a.i = b.i → a = b
 | [], _, _, _, h, _, _ => by cases h
 | r :: R, a, b, hn, ha, hb, e => by
  simp only [List.map_cons, List.nodup_cons] at hn
  rcases List.mem_cons.1 ha with h1 | h1 <;> rcases List.mem_cons.1 hb with h2 | h2
  ·rw [h1, h2]
  ·exact absurd (by rw [← h1, e]; exact List.mem_map_of_mem h2) hn.1
  ·exact absurd (by rw [← h2, ← e]; exact List.mem_map_of_mem h1) hn.1
  ·exact nodupS hn.2 h1 h2 e
theorem phase_spare {ops : Array Oper} {Q : Exit → Act → World → Prop} {X tail : List Nat} {a0 : Act} {w0 : World} (RS : List FloS) {R : List Flo} (hRS : RS.map FloS.flo = R) (hB : spB RS X = true)
  (congr : ∀ r ∈ RS, ∀ us us' lo lo' hi hi' w, (∀ j ∈ r.uses, us j = us' j ∧ lo j = lo' j ∧ hi j = hi' j) → r.J us lo hi w → r.J us' lo' hi' w)
  (stableB : ∀ r ∈ RS, ∀ us lo hi w w', Below w.heap.size w w' → r.J us lo hi w → r.J us lo hi w')
  (stableS : ∀ r ∈ RS, ∀ q ∈ RS, ∀ s, q.src = some s → s ≠ r.i → q.i ≠ r.i → (∀ p ∈ RS, r.i ∈ p.eats → p.i ∉ q.ds) → ∀ us lo hi w w', w0.heap.size ≤ lo s → (∀ j ∈ r.uses, w0.heap.size ≤ lo j ∧ lo j ≤ hi j ∧ hi j ≤ w.heap.size) → (∀ j ∈ r.uses, hi j ≤ lo s ∨ hi s ≤ lo j) → Spare (lo s) (hi s) w w' → r.J us lo hi w → r.J us lo hi w')
  (exec : ∀ r ∈ RS, ExecS P ops RS a0 w0 r)
  (last : ∀ (us : Nat → Value) (lo hi : Nat → Nat) w, Below w0.heap.size w0 w → (∀ r ∈ RS, (∀ q ∈ RS, r.i ∉ q.eats) → r.J us lo hi w) → (∀ r ∈ RS, w0.heap.size ≤ lo r.i ∧ lo r.i ≤ hi r.i ∧ hi r.i ≤ w.heap.size) →
   (∀ r ∈ RS, ∀ q ∈ RS, r.i ≠ q.i → hi r.i ≤ lo q.i ∨ hi q.i ≤ lo r.i) → wpList P ops (Calm Q) (tail.map fun i => ops.toList.getD i default) (puts us R a0) w) :
  ∃ I, PhaseI P ops Q R X tail a0 w0 I := by
 subst hRS
 simp only [spB, Bool.and_eq_true, decide_eq_true_eq, List.all_eq_true] at hB
 obtain ⟨⟨hnd, hB⟩, hC⟩ := hB
 have hu1 : ∀ r ∈ RS, r.i ∈ r.uses := fun r hr => List.contains_iff_mem.1 (hB r hr).1.1.2
 have hds : ∀ r ∈ RS, ∀ j ∈ r.deps, j ∈ r.ds := fun r hr j hj => List.contains_iff_mem.1 ((hB r hr).1.1.1 j hj)
 have useIn : ∀ r ∈ RS, ∀ j ∈ r.uses, ∃ a ∈ RS, a.i = j := fun r hr j hj => by
  have h := (hB r hr).1.2 j hj
  simpa only [List.any_eq_true, beq_iff_eq] using h
 have hu2 : ∀ r ∈ RS, ∀ j ∈ r.uses, j = r.i ∨ ∃ q ∈ RS, q.i ∈ r.deps ∧ j ∈ q.uses := fun r hr j hj => by
  have h := (hB r hr).2 j hj
  simp only [Bool.or_eq_true, beq_iff_eq, List.any_eq_true, Bool.and_eq_true] at h
  rcases h with h | ⟨q, hq, h1, h2⟩
  ·exact .inl h
  ·exact .inr ⟨q, hq, List.contains_iff_mem.1 h1, List.contains_iff_mem.1 h2⟩
 have hs1 : ∀ q ∈ RS, ∀ s, q.src = some s → s ∈ q.eats ∧ s ∈ q.deps ∧ X.contains q.i = true ∧ (∃ r ∈ RS, r.i = s) ∧ ∀ p ∈ RS, p.i ≠ s → p.i ≠ q.i → s ∉ p.uses := fun q hq s hs => by
  have h := (hC q hq).2
  rw [hs] at h
  simp only [Bool.and_eq_true, List.any_eq_true, beq_iff_eq, List.all_eq_true, Bool.or_eq_true, Bool.not_eq_true'] at h
  refine ⟨List.contains_iff_mem.1 h.1.1.1.1, List.contains_iff_mem.1 h.1.1.1.2, h.1.1.2, h.1.2, fun p hp h1 h2 h3 => ?_⟩
  rcases h.2 p hp with (h | h) | h
  ·exact h1 h
  ·exact h2 h
  ·rw [List.contains_iff_mem.2 h3] at h; cases h
 have hs2 : ∀ q ∈ RS, ∀ s ∈ q.eats, ∀ p ∈ RS, s ∈ p.deps → p.i = q.i := fun q hq s hs p hp hd => by
  have h := (hC q hq).1 s hs p hp
  simp only [Bool.or_eq_true, Bool.not_eq_true', beq_iff_eq] at h
  rcases h with h | h
  ·rw [List.contains_iff_mem.2 hd] at h; cases h
  ·exact h
 clear hB hC
 refine ⟨fun L us w => ∃ lo hi : Nat → Nat, Below w0.heap.size w0 w ∧ (∀ r ∈ RS, L r.i = true → (∀ q ∈ RS, r.i ∈ q.eats → L q.i = false) → r.J us lo hi w) ∧ (∀ r ∈ RS, L r.i = true → ∀ j ∈ r.uses, L j = true ∧ w0.heap.size ≤ lo j ∧ lo j ≤ hi j ∧ hi j ≤ w.heap.size) ∧
   (∀ r q : Nat, (∃ a ∈ RS, a.i = r) → (∃ a ∈ RS, a.i = q) → L r = true → L q = true → r ≠ q → hi r ≤ lo q ∨ hi q ≤ lo r), ?_, ?_, ?_⟩
 ·intro us
  exact ⟨fun _ => 0, fun _ => 0, Below.refl _ _, by simp, by simp, by simp⟩
 ·intro rf hrf L us w hnot hdep hI K hK
  obtain ⟨r, hr, rfl⟩ := List.mem_map.1 hrf
  obtain ⟨lo, hi, hBw, hJ, hbd, hdj⟩ := hI
  have hN := hBw.size
  have hnot' : L r.i = false := hnot
  have hdep' : ∀ d ∈ r.deps, L d = true := fun d hd => hdep d (hds r hr d hd)
  refine exec r hr us lo hi w hBw (fun q hq hqd => ?_) K (fun v w' hj hb hsp => hK v w' ?_ ?_)
  ·have h1 := hdep' _ hqd
   refine ⟨hJ q hq h1 (fun p hp hps => ?_), fun j hj => (hbd q hq h1 j hj).2⟩
   have := hs2 p hp _ hps r hr hqd
   rw [← this]; exact hnot'
  ·simp only [FloS.flo]
   have hsz : w.heap.size ≤ w'.heap.size := by
    cases e : r.src with
    | none => exact (hb e).size
    | some s => exact (hsp s e).size
   have hNS : ∀ s, r.src = some s → L s = true ∧ w0.heap.size ≤ lo s ∧ lo s ≤ hi s ∧ hi s ≤ w.heap.size ∧ ∃ a ∈ RS, a.i = s := fun s e => by
    obtain ⟨_, h1, _, ⟨q, hq, e2⟩, _⟩ := hs1 r hr s e
    have h3 := hdep' _ h1
    have := hbd q hq (by rw [e2]; exact h3) s (by rw [← e2]; exact hu1 q hq)
    exact ⟨h3, this.2.1, this.2.2.1, this.2.2.2, q, hq, e2⟩
   have hBw' : Below w0.heap.size w0 w' := by
    cases e : r.src with
    | none => exact hBw.trans ((hb e).mono hN)
    | some s => exact hBw.trans ((hsp s e).below (hNS s e).2.1 hN)
   have hin : ∀ q ∈ RS, updB L r.i q.i = true → q = r ∨ (q.i ≠ r.i ∧ L q.i = true) := fun q hq h => by
    by_cases e : q.i = r.i
    ·exact .inl (nodupS hnd hq hr e)
    ·simp only [updB, if_neg e] at h
     exact .inr ⟨e, h⟩
   have hune : ∀ q ∈ RS, L q.i = true → ∀ j ∈ q.uses, j ≠ r.i := fun q hq h j hj e => by
    have := (hbd q hq h j hj).1
    rw [e, hnot'] at this; cases this
   refine ⟨updN lo r.i w.heap.size, updN hi r.i w'.heap.size, hBw', ?_, ?_, ?_⟩
   ·intro q hq h h2
    rcases hin q hq h with rfl | ⟨e1, e2⟩
    ·exact hj
    ·have hq2 : ∀ p ∈ RS, q.i ∈ p.eats → L p.i = false := fun p hp hps => by
      have := h2 p hp hps
      by_cases e : p.i = r.i
      ·rw [e]; exact hnot'
      ·simpa [updB, e] using this
     have hjq := hJ q hq e2 hq2
     have hjq' : q.J us lo hi w' := by
      cases e : r.src with
      | none => exact stableB q hq _ _ _ w w' (hb e) hjq
      | some s =>
       obtain ⟨n1, n2, n3, n4, n5⟩ := hNS s e
       have hsq : s ≠ q.i := fun e3 => by
        have := h2 r hr (by rw [← e3]; exact (hs1 r hr s e).1)
        simp [updB] at this
       exact stableS q hq r hr s e hsq (Ne.symm e1) (fun p hp h3 h4 => by
        have h5 := hq2 p hp h3
        have h6 : L p.i = true := hdep p.i h4
        rw [h5] at h6; cases h6) us lo hi w w' n2 (fun j hj => (hbd q hq e2 j hj).2) (fun j hj => by
        have h3 := hbd q hq e2 j hj
        exact hdj j s (useIn q hq j hj) n5 h3.1 n1 (fun e4 => (hs1 r hr s e).2.2.2.2 q hq (Ne.symm hsq) e1 (by rw [← e4]; exact hj))) (hsp s e) hjq
     refine congr q hq _ _ _ _ _ _ _ (fun j hj => ?_) hjq'
     have := hune q hq e2 j hj
     simp [upd, updN, this]
   ·intro q hq h j hju
    rcases hin q hq h with rfl | ⟨e1, e2⟩
    ·rcases hu2 q hq j hju with rfl | ⟨p, hp, h1, h2⟩
     ·simp [updB, updN]; omega
     ·have h3 := hbd p hp (hdep' _ h1) j h2
      have hne := hune p hp (hdep' _ h1) j h2
      simp only [updB, updN, if_neg hne]
      exact ⟨h3.1, h3.2.1, h3.2.2.1, by omega⟩
    ·have h3 := hbd q hq e2 j hju
     have hne := hune q hq e2 j hju
     simp only [updB, updN, if_neg hne]
     exact ⟨h3.1, h3.2.1, h3.2.2.1, by omega⟩
   ·intro a b ha hb' h1 h2 hab
    have fin : ∀ c : Nat, (∃ x ∈ RS, x.i = c) → L c = true → w0.heap.size ≤ lo c ∧ lo c ≤ hi c ∧ hi c ≤ w.heap.size := fun c hc hl => by
     obtain ⟨x, hx, rfl⟩ := hc
     exact (hbd x hx hl x.i (hu1 x hx)).2
    by_cases ea : a = r.i
    ·have eb : b ≠ r.i := fun e => hab (by rw [ea, e])
     simp only [updB, if_neg eb] at h2
     have := fin b hb' h2
     right
     simp only [updN, if_pos ea, if_neg eb]
     exact this.2.2
    ·simp only [updB, if_neg ea] at h1
     have f1 := fin a ha h1
     by_cases eb : b = r.i
     ·left
      simp only [updN, if_pos eb, if_neg ea]
      exact f1.2.2
     ·simp only [updB, if_neg eb] at h2
      simp only [updN, if_neg ea, if_neg eb]
      exact hdj a b ha hb' h1 h2 hab
  ·cases e : r.src with
   | none => exact .inr (Keep.of_below (hb e))
   | some s => exact .inl (hs1 r hr s e).2.2.1
 ·intro L us w hall hI
  obtain ⟨lo, hi, hBw, hJ, hbd, hdj⟩ := hI
  have hL : ∀ r ∈ RS, L r.i = true := fun r hr => hall r.flo (List.mem_map_of_mem hr)
  exact last us lo hi w hBw (fun r hr h => hJ r hr (hL r hr) fun q hq hqs => absurd hqs (h q hq)) (fun r hr => (hbd r hr (hL r hr) r.i (hu1 r hr)).2) (fun r hr q hq hne => hdj r.i q.i ⟨r, hr, rfl⟩ ⟨q, hq, rfl⟩ (hL r hr) (hL q hq) hne)
end Go.Rg

end
section
namespace Go.Rg
open Go Go.RowKit Go.Rw
structure Stay (p : Prop) (_x : PLift p → Unit) : Prop where
 mk ::
 out : p
theorem stay_ {p : Prop} (h : Stay p (fun _ => ())) : p := h.out
variable {P : Program} {ops : Array Oper} {RS : List FloS} {a0 : Act} {w0 : World}
theorem run_exec_move {o : Oper} {ρ : Operand → Value} {w : World} {x : Operand} {xv : Value} (ho : o.op = .move x) (hx : ρ x = xv) : (execOp ρ o).run P w = .ok (.value xv) w := by
 simp only [execOp, ho, hx]
 rfl
theorem run_exec_extract {o : Oper} {ρ : Operand → Value} {w : World} {x : Operand} {ix : Nat} {xv v : Value} (ho : o.op = .extract x ix) (hx : ρ x = xv) (hs : (Instr.extract xv ix).run P w = .ok v w) : (execOp ρ o).run P w = .ok (.value v) w := by
 simp only [execOp, ho, hx, Sem.run_bind, hs, Result.andThen_ok]
 rfl
theorem run_exec_assign {o : Oper} {ρ : Operand → Value} {w : World} {x : Operand} {xv : Value} (ho : o.op = .assign x) (hx : ρ x = xv) : (execOp ρ o).run P w = .ok (.value xv) w := by
 simp only [execOp, ho, hx]
 rfl
def JC (v : Value) : Value → Nat → Nat → World → Prop := fun u _ _ _ => u = v
def JA (e : TypeId) (B : List UInt8) : Value → Nat → Nat → World → Prop := fun v lo hi w => w.ownsRow lo e 1 v B.length (B.map bv) ∧ ∀ b, v.ownBlock = some b → b < hi
def JB (N : Nat) (e : TypeId) (B : List UInt8) : Value → Nat → Nat → World → Prop := fun v _ _ w => w.ownsRow N e 1 v B.length (B.map bv)
def JSl (B : List UInt8) : Value → Nat → Nat → World → Prop := fun v _ _ w => Sl w v B
def JV (Z : Array Value) : Value → Nat → Nat → World → Prop := fun v lo hi w => v = .pointer (some ⟨lo, 0, none⟩) ∧ lo < hi ∧ row? w lo = some Z
theorem JC.sb {v : Value} : ∀ u lo hi w w', Below w.heap.size w w' → JC v u lo hi w → JC v u lo hi w' := fun _ _ _ _ _ _ h => h
theorem JA.sb {e : TypeId} {B : List UInt8} : ∀ u lo hi w w', Below w.heap.size w w' → JA e B u lo hi w → JA e B u lo hi w' := fun _ _ _ _ _ hb h => ⟨own_below h.1 hb, h.2⟩
theorem JB.sb {N : Nat} {e : TypeId} {B : List UInt8} : ∀ u lo hi w w', Below w.heap.size w w' → JB N e B u lo hi w → JB N e B u lo hi w' := fun _ _ _ _ _ hb h => own_below h hb
theorem JSl.sb {B : List UInt8} : ∀ u lo hi w w', Below w.heap.size w w' → JSl B u lo hi w → JSl B u lo hi w' := fun _ _ _ _ _ hb h => Sl.below h hb
theorem JV.sb {Z : Array Value} : ∀ u lo hi w w', Below w.heap.size w w' → JV Z u lo hi w → JV Z u lo hi w' := by
 rintro u lo hi w w' hb ⟨e, h1, h3⟩
 exact ⟨e, h1, stable_row hb h3⟩
def StS (N : Nat) (J : Value → Nat → Nat → World → Prop) : Prop := ∀ v lo hi l h w w', hi ≤ w.heap.size → N ≤ l → N ≤ w.heap.size → (hi ≤ l ∨ h ≤ lo) → Spare l h w w' → J v lo hi w → J v lo hi w'
theorem JC.ss {N : Nat} {v : Value} : StS N (JC v) := fun _ _ _ _ _ _ _ _ _ _ _ _ h => h
theorem row_spare {l h : Nat} {w w' : World} (sp : Spare l h w w') {b : Nat} {c : Array Value} (hr : row? w b = some c) (hb : b < l ∨ h ≤ b) : row? w' b = some c := by
 have h1 := row?_lt hr
 unfold row? at hr ⊢
 rw [sp.block b h1 hb]; exact hr
theorem JV.ss {N : Nat} {Z : Array Value} : StS N (JV Z) := by
 rintro v lo hi l h w w' - - - hd sp ⟨e, h1, h3⟩
 exact ⟨e, h1, row_spare sp h3 (by omega)⟩
theorem own_spare {l h lo hi : Nat} {w w' : World} {e : TypeId} {v : Value} {n : Nat} {xs : List Value} (sp : Spare l h w w') (ho : w.ownsRow lo e 1 v n xs) (hv : ∀ b, v.ownBlock = some b → b < hi) (hd : hi ≤ l ∨ h ≤ lo) : w'.ownsRow lo e 1 v n xs := by
 refine ⟨ho.1, ?_⟩
 rcases ho.2 with h' | ⟨g, cap, cur, e1, hb, hr, rest⟩
 ·exact .inl h'
 ·subst e1
  have h1 := hv g rfl
  have h2 : g < w.heap.size := (Array.getElem?_eq_some_iff.1 hr).1
  exact .inr ⟨g, cap, cur, rfl, hb, by rw [sp.block g h2 (by omega)]; exact hr, rest⟩
theorem JA.ss {N : Nat} {e : TypeId} {B : List UInt8} : StS N (JA e B) := fun _ _ _ _ _ _ _ _ _ _ hd sp h => ⟨own_spare sp h.1 h.2 hd, h.2⟩
theorem own_hi {w : World} {B : Nat} {e : TypeId} {v : Value} {n : Nat} {xs : List Value} (h : w.ownsRow B e 1 v n xs) : ∀ b, v.ownBlock = some b → b < w.heap.size := fun b hb => (h.lt b hb).2
def At (i k : Nat) (J : Value → Nat → Nat → World → Prop) : JS := fun us lo hi w => J (us i) (lo k) (hi k) w
theorem At.congr {i k : Nat} {J : Value → Nat → Nat → World → Prop} : ∀ us us' lo lo' hi hi' w, (∀ j ∈ [i, k], us j = us' j ∧ lo j = lo' j ∧ hi j = hi' j) → At i k J us lo hi w → At i k J us' lo' hi' w := by
 intro us us' lo lo' hi hi' w h hj
 have h1 := h i (by simp)
 have h2 := h k (by simp)
 unfold At at hj ⊢
 rw [← h1.1, ← h2.2.1, ← h2.2.2]; exact hj
theorem At.sb {i k : Nat} {J : Value → Nat → Nat → World → Prop} (h : ∀ v lo hi w w', Below w.heap.size w w' → J v lo hi w → J v lo hi w') : ∀ us lo hi w w', Below w.heap.size w w' → At i k J us lo hi w → At i k J us lo hi w' := fun _ _ _ _ _ hb hj => h _ _ _ _ _ hb hj
theorem At.ss {N i k : Nat} {J : Value → Nat → Nat → World → Prop} (h : StS N J) : ∀ s (us : Nat → Value) (lo hi : Nat → Nat) (w w' : World), N ≤ lo s → (∀ j ∈ [i, k], N ≤ lo j ∧ lo j ≤ hi j ∧ hi j ≤ w.heap.size) → (∀ j ∈ [i, k], hi j ≤ lo s ∨ hi s ≤ lo j) → Spare (lo s) (hi s) w w' → At i k J us lo hi w → At i k J us lo hi w' := fun s us lo hi w w' h1 h2 h3 sp hj =>
 h _ _ _ _ _ w w' (h2 k (by simp)).2.2 h1 (by have := h2 k (by simp); omega) (h3 k (by simp)) sp hj
def JSt (p q : Nat) : JS := fun us lo hi w => ∃ H, us q = .agg H ∧ us p = .pointer (some ⟨lo p, 0, none⟩) ∧ lo p < hi p ∧ row? w (lo p) = some H
theorem JSt.congr {i p q : Nat} : ∀ us us' lo lo' hi hi' w, (∀ j ∈ [i, p, q], us j = us' j ∧ lo j = lo' j ∧ hi j = hi' j) → JSt p q us lo hi w → JSt p q us' lo' hi' w := by
 intro us us' lo lo' hi hi' w h hj
 have h1 := h p (by simp)
 have h2 := h q (by simp)
 unfold JSt at hj ⊢
 rw [← h1.1, ← h1.2.1, ← h1.2.2, ← h2.1]; exact hj
theorem JSt.sb {p q : Nat} : ∀ us lo hi w w', Below w.heap.size w w' → JSt p q us lo hi w → JSt p q us lo hi w' := by
 rintro us lo hi w w' hb ⟨H, e1, e2, e3, e4⟩
 exact ⟨H, e1, e2, e3, stable_row hb e4⟩
theorem JSt.ss {N i p q : Nat} : ∀ s (us : Nat → Value) (lo hi : Nat → Nat) (w w' : World), N ≤ lo s → (∀ j ∈ [i, p, q], N ≤ lo j ∧ lo j ≤ hi j ∧ hi j ≤ w.heap.size) → (∀ j ∈ [i, p, q], hi j ≤ lo s ∨ hi s ≤ lo j) → Spare (lo s) (hi s) w w' → JSt p q us lo hi w → JSt p q us lo hi w' := by
 rintro s us lo hi w w' h1 h2 h3 sp ⟨H, e1, e2, e3, e4⟩
 have := h3 p (by simp)
 exact ⟨H, e1, e2, e3, row_spare sp e4 (by omega)⟩
theorem upd_self {us : Nat → Value} {i : Nat} {v : Value} : upd us i v i = v := by simp [upd]
theorem upd_ne {us : Nat → Value} {i j : Nat} {v : Value} (h : j ≠ i) : upd us i v j = us j := by simp [upd, h]
theorem updN_self {f : Nat → Nat} {i v : Nat} : updN f i v i = v := by simp [updN]
theorem updN_ne {f : Nat → Nat} {i j v : Nat} (h : j ≠ i) : updN f i v j = f j := by simp [updN, h]
theorem At.self {i : Nat} {J : Value → Nat → Nat → World → Prop} {us : Nat → Value} {lo hi : Nat → Nat} {v : Value} {a b : Nat} {w : World} (h : J v a b w) : At i i J (upd us i v) (updN lo i a) (updN hi i b) w := by
 unfold At
 rw [upd_self, updN_self, updN_self]; exact h
theorem At.pass {i o : Nat} {J : Value → Nat → Nat → World → Prop} {us : Nat → Value} {lo hi : Nat → Nat} {v : Value} {a b : Nat} {w : World} (hne : o ≠ i) (h : J v (lo o) (hi o) w) : At i o J (upd us i v) (updN lo i a) (updN hi i b) w := by
 unfold At
 rw [upd_self, updN_ne hne, updN_ne hne]; exact h
theorem es_gen (i : Nat) (d : Tmp) (eats : List Nat) (ds deps uses : List Nat) (J : JS) (hd : (ops.toList.getD i default).dst = some d)
  (hx : ∀ us lo hi w, Below w0.heap.size w0 w → DepS RS w0 deps us lo hi w → ∃ v w', (execOp (puts us (RS.map FloS.flo) a0).eval (ops.toList.getD i default)).run P w = .ok (.value v) w' ∧ J (upd us i v) (updN lo i w.heap.size) (updN hi i w'.heap.size) w' ∧ Below w.heap.size w w') :
  ExecS P ops RS a0 w0 ⟨i, d, ds, deps, none, eats, uses, J⟩ := by
 intro us lo hi w hb hdep K hK
 obtain ⟨v, w', hr, hj, hb'⟩ := hx us lo hi w hb hdep
 show (ops.toList.getD i default).wp P (puts us (RS.map FloS.flo) a0) w K NoQ
 refine exec_value hr ?_
 rw [hd]
 exact hK v w' hj (fun _ => hb') (fun s h => by cases h)
theorem es_load (i : Nat) (d : Tmp) (eats : List Nat) (ds deps : List Nat) {t : TypeId} {x : Operand} {xv v : Value} (hd : (ops.toList.getD i default).dst = some d) (ho : (ops.toList.getD i default).op = .load t x) (ha : ∀ us, (puts us (RS.map FloS.flo) a0).eval x = xv)
  (hs : ∀ w, Below w0.heap.size w0 w → (Instr.loadAt t xv).run P w = .ok v w) : ExecS P ops RS a0 w0 ⟨i, d, ds, deps, none, eats, [i, i], At i i (JC v)⟩ :=
 es_gen i d eats ds deps _ _ hd fun us lo hi w hb _ => ⟨v, w, run_exec_load ho (ha us) (hs w hb), At.self rfl, Below.refl _ _⟩
theorem es_alloc (i : Nat) (d : Tmp) (eats : List Nat) (ds deps : List Nat) {t : TypeId} {Z : Array Value} (hd : (ops.toList.getD i default).dst = some d) (ho : (ops.toList.getD i default).op = .alloc t)
  (hs : ∀ w, (Instr.alloc t true (.tuple #[])).run P w = .ok (.pointer (some ⟨w.heap.size, 0, none⟩)) (w.alloc (.cells Z t))) : ExecS P ops RS a0 w0 ⟨i, d, ds, deps, none, eats, [i, i], At i i (JV Z)⟩ :=
 es_gen i d eats ds deps _ _ hd fun us lo hi w _ _ => ⟨_, _, run_exec_alloc ho (hs w), At.self ⟨rfl, by simp, row?_alloc_at _ _ _ _ rfl⟩, (Below.refl _ _).alloc (Nat.le_refl _) _⟩
theorem es_call (i : Nat) (d : Tmp) (eats : List Nat) (ds deps uses : List Nat) (J : Value → Nat → Nat → World → Prop) {f : FuncId} {xs : Array Operand} {ts : Array TypeId} {args : (Nat → Value) → Array Value} (hd : (ops.toList.getD i default).dst = some d)
  (hcf : ∀ args w, (callFunc f args).run P w = .ok (.enter f args) w) (ho : (ops.toList.getD i default).op = .call { callee := .value (.func f), args := xs, argTypes := ts })
  (ha : ∀ us, xs.map (puts us (RS.map FloS.flo) a0).eval = args us)
  (hc : ∀ us lo hi w, Below w0.heap.size w0 w → DepS RS w0 deps us lo hi w → Calls P f (args us) w fun e w' => ∃ v, e = .returned v ∧ J v w.heap.size w'.heap.size w' ∧ Below w.heap.size w w') : ExecS P ops RS a0 w0 ⟨i, d, ds, deps, none, eats, uses, At i i J⟩ := by
 intro us lo hi w hb hdep K hK
 show (ops.toList.getD i default).wp P (puts us (RS.map FloS.flo) a0) w K NoQ
 refine exec_fun hcf ho (ha us) (hc us lo hi w hb hdep) ?_
 rintro e w' ⟨v, rfl, hj, hb'⟩
 refine ⟨v, rfl, ?_⟩
 rw [hd]
 exact hK v w' (At.self hj) (fun _ => hb') (fun s h => by cases h)
theorem es_mv (i : Nat) (d : Tmp) (eats : List Nat) (ds : List Nat) (q : FloS) (k o : Nat) (J : Value → Nat → Nat → World → Prop) {x : Operand} (hd : (ops.toList.getD i default).dst = some d) (ho : (ops.toList.getD i default).op = .move x ∨ (ops.toList.getD i default).op = .assign x) (ha : ∀ us, (puts us (RS.map FloS.flo) a0).eval x = us k)
  (hk : q ∈ RS) (hqi : q.i = k) (hq : q.J = At k o J) (hne : o ≠ i) : ExecS P ops RS a0 w0 ⟨i, d, ds, [k], none, eats, [i, o], At i o J⟩ := by
 refine es_gen i d eats ds [k] _ _ hd fun us lo hi w hb hdep => ⟨us k, w, ?_, ?_, Below.refl _ _⟩
 ·rcases ho with ho | ho
  ·exact run_exec_move ho (ha us)
  ·exact run_exec_assign ho (ha us)
 ·have := (hdep q hk (by rw [hqi]; simp)).1
  rw [hq] at this
  exact At.pass hne this
theorem es_ext (i : Nat) (d : Tmp) (eats : List Nat) (ds : List Nat) (q : FloS) (k o : Nat) (Jk J : Value → Nat → Nat → World → Prop) {x : Operand} {ix : Nat} (hd : (ops.toList.getD i default).dst = some d) (ho : (ops.toList.getD i default).op = .extract x ix) (ha : ∀ us, (puts us (RS.map FloS.flo) a0).eval x = us k)
  (hk : q ∈ RS) (hqi : q.i = k) (hq : q.J = At k o Jk) (hne : o ≠ i) (hj : ∀ v lo hi w, Jk v lo hi w → ∃ u, (Instr.extract v ix).run P w = .ok u w ∧ J u lo hi w) : ExecS P ops RS a0 w0 ⟨i, d, ds, [k], none, eats, [i, o], At i o J⟩ := by
 refine es_gen i d eats ds [k] _ _ hd fun us lo hi w hb hdep => ?_
 have := (hdep q hk (by rw [hqi]; simp)).1
 rw [hq] at this
 obtain ⟨u, h1, h2⟩ := hj _ _ _ _ this
 exact ⟨u, w, run_exec_extract ho (ha us) h1, At.pass hne h2, Below.refl _ _⟩
theorem es_app0 (i : Nat) (d : Tmp) (eats : List Nat) (ds deps : List Nat) {t e : TypeId} {inf : TypeInfo} {x : Operand} {xv : (Nat → Value) → Value} (B : List UInt8) (hd : (ops.toList.getD i default).dst = some d)
  (ho : (ops.toList.getD i default).op = .call { callee := .builtin .append, args := #[.const (.slice none 0 0), x], argTypes := #[t, t] }) (ht : P.underlying t = some (.slice e)) (hi : P.info? e = some inf) (hz : inf.zero = some (.int .u8 0)) (hsz : inf.size = 1) (hby : inf.bytes = 1)
  (ha : ∀ us, (puts us (RS.map FloS.flo) a0).eval x = xv us) (hB : B.length ≤ 1000000) (hs : ∀ us lo hi w, Below w0.heap.size w0 w → DepS RS w0 deps us lo hi w → Sl w (xv us) B) : ExecS P ops RS a0 w0 ⟨i, d, ds, deps, none, eats, [i, i], At i i (JA e B)⟩ := by
 intro us lo hi' w hb hdep K hK
 show (ops.toList.getD i default).wp P (puts us (RS.map FloS.flo) a0) w K NoQ
 refine exec_app (v0 := .slice none 0 0) (l0 := []) _ x ho ht hi hz hsz hby (Nat.le_refl w.heap.size) rfl (World.ownsRow_nil _ _ _ _) (ha us) (hs us lo hi' w hb hdep) (by simp; omega) ?_
 intro v' w' h1 h2
 rw [hd]
 have hj : JA e B v' w.heap.size w'.heap.size w' := ⟨by simpa using h1, own_hi h1⟩
 refine hK v' w' (At.self hj) (fun _ => ?_) (fun s h => by cases h)
 ·exact ⟨h2.os, h2.tape, h2.output, h2.size, fun k hk => h2.block k hk (by simp [Value.ownBlock])⟩
theorem es_app (i : Nat) (d : Tmp) (eats : List Nat) (ds : List Nat) (q : FloS) (k : Nat) {t e : TypeId} {inf : TypeInfo} {y x : Operand} {xv : Value} (B C : List UInt8) (hd : (ops.toList.getD i default).dst = some d)
  (ho : (ops.toList.getD i default).op = .call { callee := .builtin .append, args := #[y, x], argTypes := #[t, t] }) (ht : P.underlying t = some (.slice e)) (hi : P.info? e = some inf) (hz : inf.zero = some (.int .u8 0)) (hsz : inf.size = 1) (hby : inf.bytes = 1)
  (hy : ∀ us, (puts us (RS.map FloS.flo) a0).eval y = us k) (ha : ∀ us, (puts us (RS.map FloS.flo) a0).eval x = xv) (hk : q ∈ RS) (hqi : q.i = k) (hq : q.J = At k k (JA e B)) (hqu : k ∈ q.uses) (hB : B.length + C.length ≤ 1000000) (hs : ∀ w, Below w0.heap.size w0 w → Sl w xv C) : ExecS P ops RS a0 w0 ⟨i, d, ds, [k], some k, eats, [i, i], At i i (JB w0.heap.size e (B ++ C))⟩ := by
 intro us lo hi' w hb hdep K hK
 obtain ⟨j0, b0⟩ := hdep q hk (by rw [hqi]; simp)
 rw [hq] at j0
 obtain ⟨j1, j2⟩ := j0
 obtain ⟨b1, b2, b3⟩ := b0 k hqu
 show (ops.toList.getD i default).wp P (puts us (RS.map FloS.flo) a0) w K NoQ
 refine exec_app (v0 := us k) (l0 := B) y x ho ht hi hz hsz hby (B := lo k) (Nat.le_trans b2 b3) (hy us) j1 (ha us) (hs w hb) (by omega) ?_
 intro v' w' h1 h2
 rw [hd]
 have hj : JB w0.heap.size e (B ++ C) v' w.heap.size w'.heap.size w' := own_lower h1 b1
 refine hK v' w' (At.self (lo := lo) (hi := hi') hj) (fun h => by cases h) (fun s h => ?_)
 ·obtain rfl : k = s := by injection h
  refine ⟨h2.os, h2.tape, h2.output, h2.size, fun q hq hqd => h2.block q hq fun he => ?_⟩
  have e1 : q < hi' k := j2 q he.symm
  have e2 : lo k ≤ q := (j1.lt q he.symm).1
  omega
theorem puts_size (us : Nat → Value) : ∀ (R : List Flo) (a : Act), (puts us R a).tmps.size = a.tmps.size
 | [], _ => rfl
 | r :: R, a => by rw [puts, puts_size us R]; simp [Act.put]
theorem put_out (a : Act) (d : Tmp) (v : Value) (h : a.tmps.size ≤ d) : a.put (some d) v = a := by
 cases a
 simp only [Act.put]
 congr 1
 apply Array.ext_getElem?
 intro i
 rw [Array.getElem?_setIfInBounds]
 split
 ·rename_i h2; subst h2
  rw [if_neg (by simpa using h)]
  exact (Array.getElem?_eq_none (by simpa using h)).symm
 ·rfl
theorem es_store (i : Nat) (d : Tmp) (eats : List Nat) (ds : List Nat) (qp qv : FloS) (p v o : Nat) (Jv : Value → Nat → Nat → World → Prop) (G : Array Value → Prop) {t : TypeId} {Z : Array Value} {x y : Operand} (hsz : Nat.ble a0.tmps.size d = true) (hd : (ops.toList.getD i default).dst = none)
  (ho : (ops.toList.getD i default).op = .store t x y) (hx : ∀ us, (puts us (RS.map FloS.flo) a0).eval x = us p) (hy : ∀ us, (puts us (RS.map FloS.flo) a0).eval y = us v)
  (hp : qp ∈ RS) (hpi : qp.i = p) (hpj : qp.J = At p p (JV Z)) (hv : qv ∈ RS) (hvi : qv.i = v) (hvj : qv.J = At v o Jv) (hip : p ≠ i) (hiv : v ≠ i) (hagg : ∀ u lo hi w, Jv u lo hi w → ∃ H, u = .agg H ∧ G H)
  (hs : ∀ w b (H : Array Value), row? w b = some Z → G H → (Instr.storeAt t (.pointer (some ⟨b, 0, none⟩)) (.agg H)).run P w = .ok () (w.setRow b H)) : ExecS P ops RS a0 w0 ⟨i, d, ds, [p, v], some p, eats, [i, p, v], JSt p v⟩ := by
 intro us lo hi w hb hdep K hK
 have j1 := (hdep qp hp (by rw [hpi]; simp)).1
 have j2 := (hdep qv hv (by rw [hvi]; simp)).1
 rw [hpj] at j1
 rw [hvj] at j2
 obtain ⟨e1, e2, e3⟩ := j1
 obtain ⟨H, e4, e5⟩ := hagg _ _ _ _ j2
 show (ops.toList.getD i default).wp P (puts us (RS.map FloS.flo) a0) w K NoQ
 have hrun := hs w (lo p) H e3 e5
 have hlt := row?_lt e3
 have hk := hK undef (w.setRow (lo p) H) ?_ (fun h => by cases h) (fun s h => ?_)
 ·rw [put_out _ _ _ (by rw [puts_size]; exact Nat.le_of_ble_eq_true hsz)] at hk
  have h1 := hx us
  have h2 := hy us
  generalize (puts us (RS.map FloS.flo) a0) = aa at h1 h2 hk ⊢
  generalize ops.toList.getD i default = oo at ho hd ⊢
  rw [e1] at h1
  rw [e4] at h2
  unfold Oper.wp
  simp only [execOp, ho, h1, h2, Sem.run_bind, hrun, Result.andThen_ok]
  simp only [Sem.run_pure, Oper.upon]
  rw [hd]
  exact hk
 ·refine ⟨H, by rw [upd_ne hiv]; exact e4, by rw [upd_ne hip, updN_ne hip]; exact e1, by rw [updN_ne hip, updN_ne hip]; exact e2, ?_⟩
  rw [updN_ne hip]
  exact row?_setRow_eq e3
 ·obtain rfl : p = s := by injection h
  have m : Mut (lo p) w (w.setRow (lo p) H) := (Mut.refl _ _).setRow _
  exact ⟨m.os, m.tape, m.output, m.size, fun k hk hq => m.block k hk (by omega)⟩
theorem es_len (i : Nat) (d : Tmp) (eats : List Nat) (ds deps : List Nat) {x : Operand} {ts : Array TypeId} {xv : Value} {n : Int} (hd : (ops.toList.getD i default).dst = some d) (ho : (ops.toList.getD i default).op = .call { callee := .builtin .len, args := #[x], argTypes := ts }) (ha : ∀ us, (puts us (RS.map FloS.flo) a0).eval x = xv)
  (hl : ∀ w, (Builtin.len_ ts (ops.toList.getD i default).type #[xv]).run P w = .ok (.int .i64 n) w) : ExecS P ops RS a0 w0 ⟨i, d, ds, deps, none, eats, [i, i], At i i (JC (.int .i64 n))⟩ := by
 intro us lo hi w hb hdep K hK
 show (ops.toList.getD i default).wp P (puts us (RS.map FloS.flo) a0) w K NoQ
 refine exec_len ho (ha us) (hl w) ?_
 rw [hd]
 exact hK _ _ (At.self (lo := lo) (hi := hi) (show JC (.int .i64 n) (.int .i64 n) w.heap.size w.heap.size w from rfl)) (fun _ => Below.refl _ _) (fun s h => by cases h)
theorem es_slice (i : Nat) (d : Tmp) (eats : List Nat) (ds : List Nat) (q : FloS) (k o : Nat) {t : TypeId} {x y : Operand} {xv yv v : Value} (hd : (ops.toList.getD i default).dst = some d) (ho : (ops.toList.getD i default).op = .slice t x none (some y) none) (ha : ∀ us, (puts us (RS.map FloS.flo) a0).eval x = xv) (hy : ∀ us, (puts us (RS.map FloS.flo) a0).eval y = us k)
  (hk : q ∈ RS) (hqi : q.i = k) (hq : q.J = At k o (JC yv)) (hs : ∀ w, (Instr.sliceAt t xv none (some yv) none).run P w = .ok v w) : ExecS P ops RS a0 w0 ⟨i, d, ds, [k], none, eats, [i, i], At i i (JC v)⟩ := by
 intro us lo hi w hb hdep K hK
 have e := (hdep q hk (by rw [hqi]; simp)).1
 rw [hq] at e
 have e' : us k = yv := e
 show (ops.toList.getD i default).wp P (puts us (RS.map FloS.flo) a0) w K NoQ
 refine exec_slice ho (ha us) ((hy us).trans e') (hs w) ?_
 rw [hd]
 exact hK _ _ (At.self (lo := lo) (hi := hi) (show JC v v w.heap.size w.heap.size w from rfl)) (fun _ => Below.refl _ _) (fun s h => by cases h)
theorem wp_anyQ {o : Oper} {a : Act} {w : World} {K : Act → World → Prop} {Q : Exit → Act → World → Prop} (h : o.wp P a w K NoQ) : o.wp P a w K Q :=
 upon_monoQ (Q := NoQ) (fun _ _ _ h => h.elim) h
theorem wp_copy {o : Oper} {a : Act} {w : World} {K : Act → World → Prop} {Q : Exit → Act → World → Prop} {t e : TypeId} {i : TypeInfo} (x : Operand) (ho : o.op = .call { callee := .builtin .append, args := #[.const (.slice none 0 0), x], argTypes := #[t, t] })
  (ht : P.underlying t = some (.slice e)) (hi : P.info? e = some i) (hz : i.zero = some (.int .u8 0)) (hsz : i.size = 1) (hby : i.bytes = 1) {v : Value} {l : List UInt8} (hx : a.eval x = v) (hs : Sl w v l) (hl : l.length ≤ 1000000)
  (h : ∀ v' w', w'.ownsRow w.heap.size e 1 v' l.length (l.map bv) → Below w.heap.size w w' → K (a.put o.dst v') w') : o.wp P a w K Q := by
 refine wp_anyQ (exec_app (v0 := .slice none 0 0) (l0 := []) _ x ho ht hi hz hsz hby (Nat.le_refl w.heap.size) rfl (World.ownsRow_nil _ _ _ _) hx hs (by simp; omega) fun v' w' h1 h2 => h v' w' (by simpa using h1) ?_)
 exact ⟨h2.os, h2.tape, h2.output, h2.size, fun k hk => h2.block k hk (by simp [Value.ownBlock])⟩
end Go.Rg

end
section
namespace Go.Proofs.Ytjlpppnpdgenfaa
open Go.RowKit Go.Rw Aes Hdr Vlt
def JOpen (q : Hd × List UInt8 × Int) : Value → Nat → Nat → World → Prop := fun v lo hi w =>
 ∃ vd vs vt vx, v = .tuple #[.agg (hvA q.1.long q.1.kind q.1.ver vd vs vt q.1.spin q.1.phase q.1.num q.1.nl), vx, .int .i64 q.2.2] ∧ Rg.JA 5 q.1.dst vd lo hi w ∧ Rg.JA 5 q.1.src vs lo hi w ∧ Rg.JA 5 q.1.tok vt lo hi w ∧ Rg.JA 5 q.2.1 vx lo hi w
def JHdr (h : Hd) : Value → Nat → Nat → World → Prop := fun v lo hi w =>
 ∃ vd vs vt, v = .agg (hvA h.long h.kind h.ver vd vs vt h.spin h.phase h.num h.nl) ∧ Rg.JA 5 h.dst vd lo hi w ∧ Rg.JA 5 h.src vs lo hi w ∧ Rg.JA 5 h.tok vt lo hi w
theorem JOpen.sb {q : Hd × List UInt8 × Int} : ∀ u lo hi w w', Below w.heap.size w w' → JOpen q u lo hi w → JOpen q u lo hi w' := by
 rintro u lo hi w w' hb ⟨vd, vs, vt, vx, e, h1, h2, h3, h4⟩
 exact ⟨vd, vs, vt, vx, e, Rg.JA.sb _ _ _ _ _ hb h1, Rg.JA.sb _ _ _ _ _ hb h2, Rg.JA.sb _ _ _ _ _ hb h3, Rg.JA.sb _ _ _ _ _ hb h4⟩
theorem JHdr.sb {h : Hd} : ∀ u lo hi w w', Below w.heap.size w w' → JHdr h u lo hi w → JHdr h u lo hi w' := by
 rintro u lo hi w w' hb ⟨vd, vs, vt, e, h1, h2, h3⟩
 exact ⟨vd, vs, vt, e, Rg.JA.sb _ _ _ _ _ hb h1, Rg.JA.sb _ _ _ _ _ hb h2, Rg.JA.sb _ _ _ _ _ hb h3⟩
theorem JOpen.ss {N : Nat} {q : Hd × List UInt8 × Int} : Rg.StS N (JOpen q) := by
 rintro v lo hi l h w w' a1 a2 a3 a4 a5 ⟨vd, vs, vt, vx, e, h1, h2, h3, h4⟩
 exact ⟨vd, vs, vt, vx, e, Rg.JA.ss _ _ _ _ _ _ _ a1 a2 a3 a4 a5 h1, Rg.JA.ss _ _ _ _ _ _ _ a1 a2 a3 a4 a5 h2, Rg.JA.ss _ _ _ _ _ _ _ a1 a2 a3 a4 a5 h3, Rg.JA.ss _ _ _ _ _ _ _ a1 a2 a3 a4 a5 h4⟩
theorem JHdr.ss {N : Nat} {q : Hd} : Rg.StS N (JHdr q) := by
 rintro v lo hi l h w w' a1 a2 a3 a4 a5 ⟨vd, vs, vt, e, h1, h2, h3⟩
 exact ⟨vd, vs, vt, e, Rg.JA.ss _ _ _ _ _ _ _ a1 a2 a3 a4 a5 h1, Rg.JA.ss _ _ _ _ _ _ _ a1 a2 a3 a4 a5 h2, Rg.JA.ss _ _ _ _ _ _ _ a1 a2 a3 a4 a5 h3⟩
theorem JOpen.e0 {P : Program} {q : Hd × List UInt8 × Int} : ∀ v lo hi w, JOpen q v lo hi w → ∃ u, (Instr.extract v 0).run P w = .ok u w ∧ JHdr q.1 u lo hi w := by
 rintro v lo hi w ⟨vd, vs, vt, vx, rfl, h1, h2, h3, h4⟩
 exact ⟨_, rfl, vd, vs, vt, rfl, h1, h2, h3⟩
theorem JOpen.e1 {P : Program} {q : Hd × List UInt8 × Int} : ∀ v lo hi w, JOpen q v lo hi w → ∃ u, (Instr.extract v 1).run P w = .ok u w ∧ Rg.JA 5 q.2.1 u lo hi w := by
 rintro v lo hi w ⟨vd, vs, vt, vx, rfl, h1, h2, h3, h4⟩
 exact ⟨_, rfl, h4⟩
theorem JOpen.e2 {P : Program} {q : Hd × List UInt8 × Int} : ∀ v lo hi w, JOpen q v lo hi w → ∃ u, (Instr.extract v 2).run P w = .ok u w ∧ Rg.JC (.int .i64 q.2.2) u lo hi w := by
 rintro v lo hi w ⟨vd, vs, vt, vx, rfl, h1, h2, h3, h4⟩
 exact ⟨_, rfl, rfl⟩
theorem OpenPost.J {w : World} {q : Hd × List UInt8 × Int} {e : Ending} {w' : World} (h : OpenPost w q e w') : ∃ v, e = .returned v ∧ JOpen q v w.heap.size w'.heap.size w' ∧ Below w.heap.size w w' := by
 obtain ⟨vd, vs, vt, vx, rfl, o1, o2, o3, o4, hX⟩ := h
 exact ⟨_, rfl, ⟨vd, vs, vt, vx, rfl, ⟨o1, Rg.own_hi o1⟩, ⟨o2, Rg.own_hi o2⟩, ⟨o3, Rg.own_hi o3⟩, ⟨o4, Rg.own_hi o4⟩⟩, hX⟩
theorem JHdr.agg {q : Hd} : ∀ u lo hi w, JHdr q u lo hi w → ∃ H : Array Value, u = .agg H ∧ H.size = 10 ∧ allOne H = true := by
 rintro u lo hi w ⟨vd, vs, vt, rfl, h1, h2, h3⟩
 obtain ⟨a1, c1, rfl, -⟩ := Own.sl h1.1
 obtain ⟨a2, c2, rfl, -⟩ := Own.sl h2.1
 obtain ⟨a3, c3, rfl, -⟩ := Own.sl h3.1
 exact ⟨_, rfl, hvA_size .., hvA_all ..⟩
structure OpenIn (h : Hd) (b : Nat) (va : Value) (w : World) : Prop where
 ex : ∃ a1 c1 a2 c2 a3 c3, va = .agg (hvA h.long h.kind h.ver (.slice a1 h.dst.length c1) (.slice a2 h.src.length c2) (.slice a3 h.tok.length c3) h.spin h.phase h.num h.nl) ∧ Sl w (.slice a1 h.dst.length c1) h.dst ∧ Sl w (.slice a2 h.src.length c2) h.src ∧ Sl w (.slice a3 h.tok.length c3) h.tok ∧
  (∀ c off n cap, Value.slice a1 h.dst.length c1 = .slice (some ⟨c, off, none⟩) n cap → c ≠ b) ∧ (∀ c off n cap, Value.slice a2 h.src.length c2 = .slice (some ⟨c, off, none⟩) n cap → c ≠ b) ∧ ∀ c off n cap, Value.slice a3 h.tok.length c3 = .slice (some ⟨c, off, none⟩) n cap → c ≠ b
theorem JA.ne {e : TypeId} {B : List UInt8} {v : Value} {lo hi b : Nat} {w : World} (h : Rg.JA e B v lo hi w) (hb : b < lo ∨ hi ≤ b) : ∀ c off n cap, v = .slice (some ⟨c, off, none⟩) n cap → c ≠ b := by
 intro c off n cap e1 e2
 subst e1 e2
 have h1 := (h.1.lt c rfl).1
 have h2 := h.2 c rfl
 omega
theorem JHdr.inn {h : Hd} {v : Value} {lo hi b : Nat} {w : World} (j : JHdr h v lo hi w) (hb : b < lo ∨ hi ≤ b) : OpenIn h b v w := by
 obtain ⟨vd, vs, vt, e, h1, h2, h3⟩ := j
 have n1 := JA.ne h1 hb
 have n2 := JA.ne h2 hb
 have n3 := JA.ne h3 hb
 have s1 := Own.sl h1.1
 have s2 := Own.sl h2.1
 have s3 := Own.sl h3.1
 obtain ⟨a1, c1, rfl, -, -, -⟩ := id s1
 obtain ⟨a2, c2, rfl, -, -, -⟩ := id s2
 obtain ⟨a3, c3, rfl, -, -, -⟩ := id s3
 exact ⟨⟨a1, c1, a2, c2, a3, c3, e, s1, s2, s3, n1, n2, n3⟩⟩
end Go.Proofs.Ytjlpppnpdgenfaa

end
