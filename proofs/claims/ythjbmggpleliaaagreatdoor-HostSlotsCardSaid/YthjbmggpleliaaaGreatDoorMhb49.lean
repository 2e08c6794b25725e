/- LawI; HelM. -/
import Derived.Test.YthjbmggpleliaaaGreatDoorMhb23
import Derived.Test.YthjbmggpleliaaaGreatDoorMhbLibI
import Derived.Test.YthjbmggpleliaaaGreatDoorMhb47
import Derived.Test.YthjbmggpleliaaaGreatDoorMhb48
import Derived.Test.YthjbmggpleliaaaGreatDoorRows
import Derived.OpenShut
import Derived.LaidMore
import Derived.MakeChecks
import Derived.Stop.Joined
section


end
section
namespace Go.Law
open Go Go.RowKit Go.Rw Go.ChangeShapes Go.WideShapes Go.ChangeAt
theorem arr_of_laid {H : Type} {enc : TypeId × Value → H} {P : Program} {w : World} {k : IntKind} {n fuel base : Nat} {sp : Nat → Bool} {held : Bool} {t e : TypeId} {cs : List Value} {p : List MemPlace} {zs : List Int} (ht : P.underlying t = some (.array n e)) (he : P.underlying e = some (.int k)) (hce : P.cellsOf e = 1) (hct : P.cellsOf t = n) (hz : zs.length = n)
  (h : DataW.trod enc P w base sp held fuel t cs = some (.agg (zs.map fun z => .lit (.int k z)), p)) : cs = zs.map (Value.int k) := by
 obtain ⟨xs, m, rfl, hx, hl, hn, hel⟩ := DataW.trod_array ht h
 simp only [Prod.mk.injEq, DataW.agg.injEq] at hx
 have hx1 := hx.1
 apply List.ext_getElem?
 intro i
 by_cases hi : i < n
 ·have h1 := hel i hi
  rw [hce, Nat.mul_one] at h1
  have hzi : zs[i]? = some (zs[i]'(by omega)) := List.getElem?_eq_getElem (by omega)
  have hxi : xs[i]? = some (xs[i]'(by omega)) := List.getElem?_eq_getElem (by omega)
  rw [hxi] at h1
  obtain ⟨z, e1, e2, -⟩ := DataW.trod_int he h1
  have e3 : (xs[i]'(by omega)).1 = .lit (.int k (zs[i]'(by omega))) := by
   have := congrArg (fun l => l[i]?) hx1
   simp only [List.getElem?_map, hzi, hxi, Option.map_some, Option.some.injEq] at this
   exact this.symm
  rw [e2] at e3
  simp only [DataW.lit.injEq, Lit.int.injEq, true_and] at e3
  have hc : cs[i]? = some (.int k z) := by
   have := congrArg (fun l => l[0]?) e1
   simpa [List.getElem?_take, List.getElem?_drop] using this
  rw [hc, List.getElem?_map, hzi, e3]; rfl
 ·rw [List.getElem?_eq_none (by omega), List.getElem?_eq_none (by simp; omega)]
end Go.Law
namespace Go.Proofs.YthjbmggpleliaaaGreatDoor
open Go Go.RowKit Go.Rw Aes Hdr Vlt Hst
theorem g0 : Tryz.prog.globalNamed "mantilla/letter.buckets" = some 0 := by kernel_rfl
theorem g1 : Tryz.prog.globalNamed "mantilla/sha.first" = some 1 := by kernel_rfl
theorem g2 : Tryz.prog.globalNamed "mantilla/sha.rounds" = some 2 := by kernel_rfl
theorem gt0 : (Tryz.prog.globals[0]?).map (·.type) = some 183 := by kernel_rfl
theorem gt1 : (Tryz.prog.globals[1]?).map (·.type) = some 247 := by kernel_rfl
theorem gt2 : (Tryz.prog.globals[2]?).map (·.type) = some 273 := by kernel_rfl
theorem row_of_laid {W : World} {n : String} {g : Nat} {cs : Array Value} {ps : List MemPlace} (hg : Tryz.prog.globalNamed n = some g) (hv : W.var? Tryz.prog n = some cs) (h0 : 0 < cs.size) (hm : ∀ x, x ∈ MemPlace.row ⟨g, 0, none⟩ cs.size → x ∈ ps)
  (hrow : ∀ b off, MemPlace.cell b off ∈ ps → (∃ c t, W.heap[b]? = some (.cells c t (0, 0))) ∧ ∀ u v, W.cell? ⟨b, off, none⟩ = some (.iface u v) → Value.okWide Tryz.prog W .any 0 u v) : row? W g = some cs := by
 obtain ⟨⟨c, t, hc⟩, -⟩ := hrow g 0 (hm _ (by simp [MemPlace.row]; exact h0))
 have hr := row?_of hc
 simp only [World.var?, hg, Option.bind_some, hc, Option.some.injEq] at hv
 rw [hr, hv]
set_option maxRecDepth 100000 in
set_option maxHeartbeats 1000000 in
theorem glob_of_laid {W : World} (h : laidMetH Tryz.prog [("mantilla/sha.first", Rows.laid_mantilla_sha_first), ("mantilla/sha.rounds", Rows.laid_mantilla_sha_rounds), ("mantilla/letter.buckets", Rows.laid_mantilla_letter_buckets)] W) : Glob W := by
 rw [MakeChecks.laidMetH_plain _ _ _ (by kernel_rfl)] at h
 obtain ⟨ps, ⟨ga, ta, csa, fa, pa, qa, hga, hta, hva, hda, ⟨gb, tb, csb, fb, pb, qb, hgb, htb, hvb, hdb, ⟨gc, tc, csc, fc, pc, qc, hgc, htc, hvc, hdc, eqc, epc⟩, epb⟩, epa⟩, -, hrow⟩ := h
 obtain rfl := Option.some.inj (g1.symm.trans hga)
 obtain rfl := Option.some.inj (g2.symm.trans hgb)
 obtain rfl := Option.some.inj (g0.symm.trans hgc)
 obtain rfl := Option.some.inj (gt1.symm.trans hta)
 obtain rfl := Option.some.inj (gt2.symm.trans htb)
 obtain rfl := Option.some.inj (gt0.symm.trans htc)
 obtain ⟨za, hza, eza⟩ : ∃ za : List Int, za.length = 8 ∧ (Rows.laid_mantilla_sha_first : DataW Unit) = .agg (za.map fun z => .lit (.int .u32 z)) := ⟨[1779033703, 3144134277, 1013904242, 2773480762, 1359893119, 2600822924, 528734635, 1541459225], rfl, rfl⟩
 obtain ⟨zb, hzb, ezb⟩ : ∃ zb : List Int, zb.length = 64 ∧ (Rows.laid_mantilla_sha_rounds : DataW Unit) = .agg (zb.map fun z => .lit (.int .u32 z)) := ⟨[1116352408, 1899447441, 3049323471, 3921009573, 961987163, 1508970993, 2453635748, 2870763221, 3624381080, 310598401, 607225278, 1426881987, 1925078388, 2162078206, 2614888103, 3248222580, 3835390401, 4022224774, 264347078, 604807628, 770255983, 1249150122, 1555081692, 1996064986, 2554220882, 2821834349, 2952996808, 3210313671, 3336571891, 3584528711, 113926993, 338241895, 666307205, 773529912, 1294757372, 1396182291, 1695183700, 1986661051, 2177026350, 2456956037, 2730485921, 2820302411, 3259730800, 3345764771, 3516065817, 3600352804, 4094571909, 275423344, 430227734, 506948616, 659060556, 883997877, 958139571, 1322822218, 1537002063, 1747873779, 1955562222, 2024104815, 2227730452, 2361852424, 2428436474, 2756734187, 3204031479, 3329325298], rfl, rfl⟩
 have ezc : (Rows.laid_mantilla_letter_buckets : DataW Unit) = .agg (([256, 512, 1024] : List Int).map fun z => .lit (.int .i64 z)) := rfl
 rw [eza] at hda
 rw [ezb] at hdb
 rw [ezc] at hdc
 have ca := Law.arr_of_laid Tryz.underlying247 Tryz.underlying148 (by kernel_rfl) (by kernel_rfl) hza hda
 have cb := Law.arr_of_laid Tryz.underlying273 Tryz.underlying148 (by kernel_rfl) (by kernel_rfl) hzb hdb
 have cc := Law.arr_of_laid Tryz.underlying183 Tryz.underlying3 (by kernel_rfl) (by kernel_rfl) rfl hdc
 have ea : csa = qs za := by apply Array.toList_inj.1; rw [ca]; rfl
 have eb : csb = qs zb := by apply Array.toList_inj.1; rw [cb]; rfl
 have ec : csc = ivs [256, 512, 1024] := by apply Array.toList_inj.1; rw [cc]; rfl
 have ra := row_of_laid g1 hva (by rw [ea]; simp [qs, hza]) (fun x hx => by rw [epa]; simp [hx]) hrow
 have rb := row_of_laid g2 hvb (by rw [eb]; simp [qs, hzb]) (fun x hx => by rw [epa, epb]; simp [hx]) hrow
 have rc := row_of_laid g0 hvc (by rw [ec]; simp [ivs]) (fun x hx => by rw [epa, epb, epc]; simp [hx]) hrow
 rw [ea] at ra
 rw [eb] at rb
 rw [ec] at rc
 exact ⟨rc, ⟨za, hza, ra⟩, zb, hzb, rb⟩
set_option maxRecDepth 100000 in
theorem open_config {H : Type} {enc : TypeId × Value → H} {W : World} {r : Reach} {b0 : Nat} {v : Value} {d : DataW H} {p : List MemPlace} (hv : Value.okWide Tryz.prog W r b0 24 v) (h : DataW.Trod enc Tryz.prog W 0 (fun _ => true) true 24 v d p) :
  ∃ (K T O : List UInt8) (sv tv ov : Value) (ideal : Bool), v = .agg #[sv, .bool ideal, tv, ov] ∧ Sl W sv K ∧ Sl W tv T ∧ Sl W ov O := by
 obtain ⟨cs, n, rfl, hl, hf⟩ := Law.open_agg Tryz.underlying24 (by kernel_rfl) (by kernel_rfl) hv h
 have hl' : cs.length = 4 := hl
 match cs, hl' with
 | [c0, c1, c2, c3], _ =>
  obtain ⟨y0, h0⟩ := hf 0 _ c0 rfl rfl
  obtain ⟨y1, h1⟩ := hf 1 _ c1 rfl rfl
  obtain ⟨y2, h2⟩ := hf 2 _ c2 rfl rfl
  obtain ⟨y3, h3⟩ := hf 3 _ c3 rfl rfl
  obtain ⟨l0, s0⟩ := Law.sl_of_trod Tryz.underlying22 Tryz.underlying5 (by kernel_rfl) h0
  obtain ⟨b1, rfl⟩ := Law.bool_of_trod Tryz.underlying4 h1
  obtain ⟨l2, s2⟩ := Law.sl_of_trod Tryz.underlying22 Tryz.underlying5 (by kernel_rfl) h2
  obtain ⟨l3, s3⟩ := Law.sl_of_trod Tryz.underlying22 Tryz.underlying5 (by kernel_rfl) h3
  exact ⟨l0, l2, l3, c0, c2, c3, b1, rfl, s0, s2, s3⟩
end Go.Proofs.YthjbmggpleliaaaGreatDoor

end
