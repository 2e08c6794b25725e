/- LibJ; FrmP. -/
import Derived.Test.YthjbmggpleliaaaGreatDoorMhbLibI
import Derived.Laws.AppendOwn
import Derived.Laws.AppendOwnNone
import Derived.Test.YthjbmggpleliaaaGreatDoorMhbFrmV
import Derived.Test.YthjbmggpleliaaaGreatDoorMhbVarW
import Derived.Test.YthjbmggpleliaaaGreatDoorMhb18
import Derived.Test.YthjbmggpleliaaaGreatDoorMhb13
import Derived.Test.YthjbmggpleliaaaGreatDoorMhbHdrP
import Derived.Test.YthjbmggpleliaaaGreatDoorMhb16
import Derived.Test.YthjbmggpleliaaaGreatDoorMhbHdrW7
import Derived.Test.YthjbmggpleliaaaGreatDoorMhb3
import Derived.Test.YthjbmggpleliaaaGreatDoorMhb21
import Derived.Test.YthjbmggpleliaaaGreatDoorMhb23
import Derived.Test.YthjbmggpleliaaaGreatDoorMhb7
import Derived.Test.YthjbmggpleliaaaGreatDoorMhb11
import Derived.Test.YthjbmggpleliaaaGreatDoorMhb17
section
namespace Go.Rw
open Go Go.RowKit
theorem map_iv_one (l : List Int) : ∀ u ∈ l.map iv, u.oneCell' = true := by
 intro u hu
 obtain ⟨x, _, rfl⟩ := List.mem_map.1 hu
 exact oneCell_iv x
theorem app_si {P : Program} {w : World} {ops : Array Oper} {rest : List Oper} {o : Oper} {a : Act} {Q : Exit → Act → World → Prop} (hgd : o.guard = none) (s x : Operand) (t : TypeId)
  (ho : o.op = .call { callee := .builtin .append, args := #[s, x], argTypes := #[t, t] })
  (base : Nat) (e : TypeId) (i : TypeInfo) (ht : P.underlying t = some (.slice e)) (hi : P.info? e = some i) (hz : i.zero = some (.int .i64 0))
  (hsize : i.size = 1) (hby : i.bytes = 8)
  (v : Value) (l : List Int) (hs : a.eval s = v) (hown : w.ownsRow base e 1 v l.length (l.map iv))
  (u : Value) (m : List Int) (hx : a.eval x = u) (hu : Si w u m) (hlen : l.length + m.length ≤ 2000000) (hbase : base ≤ w.heap.size)
  (h : ∀ v' w', w'.ownsRow base e 1 v' (l ++ m).length ((l ++ m).map iv) → w.grownBy w' v.ownBlock → wpList P ops Q rest (a.put o.dst v') w') : wpList P ops Q (o :: rest) a w := by
 obtain ⟨ao, cap, rfl, hc, hnn, hp⟩ := hu
 cases ao with
 | none =>
  obtain rfl := hnn rfl
  obtain rfl : m = [] := List.eq_nil_of_length_eq_zero (by omega)
  refine wpList_append_own_none hgd s x t ho base e i 1 ht hi v l.length (l.map iv) hs hown hx (h v w ?_ ⟨rfl, rfl, rfl, Nat.le_refl _, fun _ _ _ => rfl⟩)
  simpa using hown
 | some ad =>
  refine wpList_append_own w hgd s x t ho base e i (.int .i64 0) 1 8 ht hi hz hsize hby rfl (by decide) v l.length (l.map iv) hs hown ad m.length cap (m.map iv) hx (by simp) ?_ (map_iv_one m) (by unfold maxLen; omega) (by omega) hbase ?_
  ·intro j u hj
   have hjl : j < m.length := by have := (List.getElem?_eq_some_iff.1 hj).1; simpa using this
   obtain ⟨b, off, e, hcell⟩ := hp (by omega)
   cases e
   rw [Addr.add_lit, hcell j hjl, ← hj]
   simp [ni, iv, hjl]
  ·intro v' w' h2 h3 _
   refine h v' w' ?_ h3
   rw [List.length_append, List.map_append]
   exact h2
end Go.Rw

end
section
namespace Go.Proofs.YthjbmggpleliaaaGreatDoor
open Go.RowKit Go.Rw Frm Hdr
attribute [local go_sem ↓] ldFF stFF alFF ldFS stFS alFS
attribute [local go_sem] rldFF rstFF ralFF rldFS rstFSb ralFS setRow_alloc_at setRow_alloc_past setRow_drew
def bare (k : Int) : Array Value := fvA k 0 0 (.slice none 0 0) 0 0 false (.slice none 0 0) (.slice none 0 0) (.slice none 0 0)
end Go.Proofs.YthjbmggpleliaaaGreatDoor

end
