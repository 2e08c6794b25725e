/- The document's New and Block: a cipher made of its parts, and a block enciphered by it. -/
import Derived.Test.YtdfblojnkchpdaaAesR4
namespace Go.Rw
open Go Go.RowKit
variable {P : Program}
theorem splice_toList (c : Array Value) (o : Nat) (c' : Array Value) : (splice c o c').toList = c.toList.take o ++ c'.toList ++ c.toList.drop (o + c'.size) := by simp [splice]
theorem set_fold : ∀ (vs : List Value) (off k : Nat) (cells : Array Value), off + k + vs.length ≤ cells.size →
    ((vs.zipIdx k).foldl (fun cs (p : Value × Nat) => cs.setIfInBounds (off + p.2) p.1) cells).toList = cells.toList.take (off + k) ++ vs ++ cells.toList.drop (off + k + vs.length)
  | [], off, k, cells, _ => by simp
  | v :: vs, off, k, cells, h => by
    simp only [List.length_cons] at h
    rw [List.zipIdx_cons, List.foldl_cons, set_fold vs off (k + 1) _ (by simp; omega)]
    have hl : off + k < cells.toList.length := by simp; omega
    simp only [Array.toList_setIfInBounds, List.length_cons]
    rw [show off + (k + 1) = off + k + 1 by omega, List.set_eq_take_append_cons_drop, if_pos hl]
    have ht : (cells.toList.take (off + k)).length = off + k := by rw [List.length_take]; omega
    have hd : (cells.toList.take (off + k)).drop (off + k + 1 + vs.length) = [] := List.drop_eq_nil_of_le (by omega)
    have htk : (cells.toList.take (off + k)).take (off + k + 1) = cells.toList.take (off + k) := List.take_of_length_le (by omega)
    rw [List.take_append, List.drop_append, ht, hd, htk, show off + k + 1 - (off + k) = 1 by omega, show off + k + 1 + vs.length - (off + k) = vs.length + 1 by omega]
    simp only [List.take_succ_cons, List.take_zero, List.drop_succ_cons, List.drop_drop, List.nil_append, List.append_assoc, List.cons_append]
    rw [show off + k + 1 + vs.length = off + k + (vs.length + 1) by omega]
theorem fill_over (off : Nat) (vs cells : Array Value) (h : off + vs.size ≤ cells.size) :
    vs.zipIdx.foldl (fun cs (p : Value × Nat) => cs.setIfInBounds (off + p.2) p.1) cells = splice cells off vs := by
  apply Array.ext'
  rw [splice_toList, ← Array.foldl_toList, Array.toList_zipIdx, set_fold vs.toList off 0 cells (by simpa using h)]
  simp
theorem splice_two (Z A B : Array Value) (a b : Nat) (hA : A.size = a) (hB : B.size = b) (hZ : Z.size = a + b) : (splice (splice Z 0 A) a B).toList = A.toList ++ B.toList := by
  have hz : Z.toList.length = a + b := by simpa using hZ
  have hl : A.toList.length = a := by simpa using hA
  rw [splice_toList, splice_toList, List.take_zero, List.nil_append, Nat.zero_add, hA, hB, List.take_append_of_le_length (by omega), List.take_of_length_le (by omega),
    List.drop_eq_nil_of_le (by rw [List.length_append, List.length_drop]; omega), List.append_nil]
theorem run_fmap {α β : Type} (f : α → β) (x : Sem α) (w : World) : (f <$> x).run P w = (x.run P w).andThen fun a w' => .ok (f a) w' := by
  rw [← bind_pure_comp, Sem.run_bind]; rfl
/-- A struct of two parts, built. -/
theorem run_build_two {t : TypeId} {f0 f1 : Field} {a b : Nat} {Z : Array Value} (hu : P.underlying t = some (.struct #[f0, f1])) (h0 : f0.offset = 0) (h1 : f1.offset = a)
    (s0 : (P.info? f0.type).map (·.size) = some a) (s1 : (P.info? f1.type).map (·.size) = some b) (hz : (P.info? t).map (·.zero) = some (some (.agg Z))) (hZ : Z.size = a + b)
    (A B : Array Value) (hA : A.size = a) (hB : B.size = b) (w : World) :
    (Instr.build t #[(0, .agg A), (1, .agg B)]).run P w = .ok (.agg (A ++ B)) w := by
  have e0 : (sizeOf f0.type).run P w = .ok a w := by
    cases hq : P.info? f0.type with
    | none => simp [hq] at s0
    | some i => simp [hq] at s0; simp [sizeOf, typeInfo, hq, s0]
  have e1 : (sizeOf f1.type).run P w = .ok b w := by
    cases hq : P.info? f1.type with
    | none => simp [hq] at s1
    | some i => simp [hq] at s1; simp [sizeOf, typeInfo, hq, s1]
  have ez : (zeroValue t).run P w = .ok (.agg Z) w := by
    cases hq : P.info? t with
    | none => simp [hq] at hz
    | some i => simp [hq] at hz; simp [zeroValue, typeInfo, hq, hz]
  unfold Instr.build
  have hA' : (Value.agg A).cells = A := rfl
  have hB' : (Value.agg B).cells = B := rfl
  have hZ' : (Value.agg Z).cells = Z := rfl
  have hfill : Instr.fill (fun x => (#[(0, a), (a, b)] : Array (Nat × Nat))[x]?) Z [(0, .agg A), (1, .agg B)] = some (A ++ B) := by
    have q : splice (splice Z 0 A) a B = A ++ B := by apply Array.ext'; rw [splice_two Z A B a b hA hB hZ]; simp
    have z0 : (splice Z 0 A).size = a + b := by
      rw [← Array.length_toList, splice_toList]; simp; omega
    have c1 : Z.size = a + b := hZ
    have f1 := fill_over 0 A Z (by omega)
    have f2 := fill_over a B (splice Z 0 A) (by omega)
    unfold Instr.fill
    simp only [hA', List.getElem?_toArray, List.getElem?_cons_zero]
    rw [if_neg (by simp; omega), f1]
    unfold Instr.fill
    simp only [hB', List.getElem?_toArray, List.getElem?_cons_succ, List.getElem?_cons_zero]
    rw [if_neg (by simp; omega), f2, q]
    rfl
  simp only [Sem.run_bind, ez, run_underlying hu, Result.andThen_ok, List.mapM_toArray, List.mapM_cons, List.mapM_nil, e0, e1, h0, h1, Sem.run_pure, hZ', run_fmap, hfill]
end Go.Rw
namespace Go.Proofs.Ytdfblojnkchpdaa
open Go.RowKit Go.Rw Aes
def buildC (ps : Array (Nat × Value)) : Sem Value := Instr.build 63 ps
theorem bd42 (ps : Array (Nat × Value)) : Instr.build 63 ps = buildC ps := rfl
theorem build42 (k b : List UInt8) (hk : k.length = 176) (hb : b.length = 256) (w : World) :
    (buildC #[(0, .agg (bvs k)), (1, .agg (bvs b))]).run Try.prog w = .ok (.agg (bvs (k ++ b))) w := by
  have e : bvs k ++ bvs b = bvs (k ++ b) := by simp [bvs]
  rw [← e]
  exact run_build_two (a := 176) (b := 256) (Z := bvs (zeros 432)) Try.underlying63 rfl rfl (by kernel_rfl) (by kernel_rfl) (by kernel_rfl) (by rw [bvs_size, zeros_length]) _ _ (by rw [bvs_size, hk]) (by rw [bvs_size, hb]) w
attribute [local go_sem ↓] bd42 ld16 st16 al16 ld176 st176 al176 ld256 st256 al256 ld4 st4 al4 shift_shl8 shift_shr8 bvs_getElem?
attribute [local go_sem] build42 rst16p rld16p rld16 rst16 ral16 rld176 rst176 ral176 rld256 rst256 ral256 rld4 rst4 ral4 setRow_alloc_at setRow_alloc_past setRow_drew bvs_setn cipher_length

set_option maxRecDepth 10000 in
set_option maxHeartbeats 2000000 in
theorem rnew_any (key : List UInt8) (hk : key.length = 16) (w : World) :
    Calls Try.prog 24 #[.agg (bvs key)] w fun e w' => ∃ B, e = .returned (.pointer (some ⟨B, 0, none⟩)) ∧ row? w' B = some (bvs (cipher key)) ∧ w.heap.size ≤ B ∧ Below w.heap.size w w' := by
  have hkl := keys_length key
  have hbl := boxTab_length
  go_enter Try.func24, Try.ntmps24
  go_wp2_with fail
  refine (rkeys_any key hk _).mono ?_
  rintro e w1 ⟨rfl, hA⟩
  go_wp2_with fail
  refine (rboxes_any _).mono ?_
  rintro e w2 ⟨rfl, hB⟩
  have zA := hA.size
  simp at zA
  have zB := hB.size
  have b1 : Below w.heap.size w w1 := ((Below.refl _ _).alloc (Nat.le_refl _) _).trans (hA.mono (by first | omega | (simp; done) | (simp; omega)))
  have b2 : Below w.heap.size w w2 := b1.trans (hB.mono (by omega))
  go_wp2_with fail
  go_ret
  exact ⟨_, rfl, by rw [row?_alloc_at _ _ _ _ (by first | omega | (simp; done) | (simp; omega))]; rfl, by omega, b2.alloc (by omega) _⟩

end Go.Proofs.Ytdfblojnkchpdaa
