/- A call's three answers taken apart in a region that draws its order, whatever they are. Over any program. -/
import Derived.Test.YtjlpppnpdgenfaaMvbLibX
namespace Go.Rg
open Go Go.RowKit Go.Rw
variable {P : Program}
def Tup3 (A B : Value → World → Prop) (c : Value) (v : Value) (w : World) : Prop := ∃ x y, v = .tuple #[x, y, c] ∧ A x w ∧ B y w
theorem Tup3.stable {A B : Value → World → Prop} {c : Value} (hA : ∀ v w w', Below w.heap.size w w' → A v w → A v w') (hB : ∀ v w w', Below w.heap.size w w' → B v w → B v w') : ∀ v w w', Below w.heap.size w w' → Tup3 A B c v w → Tup3 A B c v w' := by
 rintro v w w' hb ⟨x, y, e, a, b⟩
 exact ⟨x, y, e, hA _ _ _ hb a, hB _ _ _ hb b⟩
end Go.Rg
