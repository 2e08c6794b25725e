/-
  No cell of these rows narrows 'for every input' (looked for: loops, veiled, ifaces, maps, wideKeys, modest, calm, conditions, laid).
  DERIVED. THE GIVEN ROWS OF THIS SEAT. 5 by the template 'for every input the law returns true; each argument reads behind the call as it read before'; 0 by the template 'total and deterministic' (their statements: YtenoldpfclmedaaTotals.lean).
  GIVEN WITH THE SEED: the statements are not yours to turn. If you find one false, say at which input.
  Laid BY PROGRAM, IN A SANDBOX (cutbox-rows.mjs): the forced cells as the released guide's own fill.sh prints them over the translation fc86cab81ea4e175… (all of the seat's roots in one cut). By AI agents, Wed Nov 11 2026. No macro, syntax, notation, axiom, sorry.
-/
import Derived.Test.YtenoldpfclmedaaChecked
import GoSem.Claim
import GoSem.ClaimJoined
import GoSem.ClaimMapViews
import Derived.JoinedTies
import Derived.KernelRfl
namespace Go.Proofs.Ytenoldpfclmedaa
/- THE CELL 'sum', in the pinned program and in every row, IS THE sha256 OF THE DUMP (.gsa) THAT YtenoldpfclmedaaProg.lean LOADS. Nothing in Lean hashes anything: it is a label: what it is worth is what the hold of that sum in a sandbox is worth. -/
noncomputable def Try.pinned : Pinned := { name := "ytenoldpfclmedaa", sum := "fc86cab81ea4e17595d5a6201767ebd9716a4ab4369a822e1ab10c6081af2481", checked := Try.checked }
namespace Rows
def none {H : Type} : Left H := { results := [], args := [] }

/-- 'mantillalaw24.ToneTells': WHATEVER THE INPUT: true; the input reads as it did. -/
def toneTellsSpec : ChangeSpec := { name := "toneTells", fn := fun _ => fun
  | [d1, d2, d3, d4, d5] => { results := [.lit (.bool true)], args := [d1, d2, d3, d4, d5] }
  | _ => none }
def toneTellsRow : OpenClaim := { program := "ytenoldpfclmedaa", sum := "fc86cab81ea4e17595d5a6201767ebd9716a4ab4369a822e1ab10c6081af2481", func := "mantilla/mantillalaw24.ToneTells", spec := "toneTells", inPlace := ["math.Float64bits", "math.Float64frombits", "math.archTrunc"], apart := false }
def ToneTellsSaid : Prop := toneTellsRow.holds Try.pinned (OpenSpec.ofChange toneTellsSpec)

/-- ITS FALSE NEIGHBOUR: 'it returns false'. Refute it at one input. -/
def toneTellsWrong : ChangeSpec := { name := "toneTells", fn := fun _ => fun
  | [d1, d2, d3, d4, d5] => { results := [.lit (.bool false)], args := [d1, d2, d3, d4, d5] }
  | _ => none }
def ToneTellsWrongFalsely : Prop := toneTellsRow.holds Try.pinned (OpenSpec.ofChange toneTellsWrong)

/-- 'mantillalaw24.ToneBack': WHATEVER THE INPUT: true; the input reads as it did. -/
def toneBackSpec : ChangeSpec := { name := "toneBack", fn := fun _ => fun
  | [d1, d2] => { results := [.lit (.bool true)], args := [d1, d2] }
  | _ => none }
def toneBackRow : OpenClaim := { program := "ytenoldpfclmedaa", sum := "fc86cab81ea4e17595d5a6201767ebd9716a4ab4369a822e1ab10c6081af2481", func := "mantilla/mantillalaw24.ToneBack", spec := "toneBack", inPlace := ["math.Float64bits", "math.Float64frombits", "math.archTrunc"], apart := false }
def ToneBackSaid : Prop := toneBackRow.holds Try.pinned (OpenSpec.ofChange toneBackSpec)

/-- ITS FALSE NEIGHBOUR: 'it returns false'. Refute it at one input. -/
def toneBackWrong : ChangeSpec := { name := "toneBack", fn := fun _ => fun
  | [d1, d2] => { results := [.lit (.bool false)], args := [d1, d2] }
  | _ => none }
def ToneBackWrongFalsely : Prop := toneBackRow.holds Try.pinned (OpenSpec.ofChange toneBackWrong)

/-- 'mantillalaw24.ToneTurns': WHATEVER THE INPUT: true; the input reads as it did. -/
def toneTurnsSpec : ChangeSpec := { name := "toneTurns", fn := fun _ => fun
  | [d1, d2, d3] => { results := [.lit (.bool true)], args := [d1, d2, d3] }
  | _ => none }
def toneTurnsRow : OpenClaim := { program := "ytenoldpfclmedaa", sum := "fc86cab81ea4e17595d5a6201767ebd9716a4ab4369a822e1ab10c6081af2481", func := "mantilla/mantillalaw24.ToneTurns", spec := "toneTurns", inPlace := ["math.Float64bits", "math.Float64frombits", "math.archTrunc"], apart := false }
def ToneTurnsSaid : Prop := toneTurnsRow.holds Try.pinned (OpenSpec.ofChange toneTurnsSpec)

/-- ITS FALSE NEIGHBOUR: 'it returns false'. Refute it at one input. -/
def toneTurnsWrong : ChangeSpec := { name := "toneTurns", fn := fun _ => fun
  | [d1, d2, d3] => { results := [.lit (.bool false)], args := [d1, d2, d3] }
  | _ => none }
def ToneTurnsWrongFalsely : Prop := toneTurnsRow.holds Try.pinned (OpenSpec.ofChange toneTurnsWrong)

/-- 'mantillalaw24.ToneShifts': WHATEVER THE INPUT: true; the input reads as it did. -/
def toneShiftsSpec : ChangeSpec := { name := "toneShifts", fn := fun _ => fun
  | [d1, d2] => { results := [.lit (.bool true)], args := [d1, d2] }
  | _ => none }
def toneShiftsRow : OpenClaim := { program := "ytenoldpfclmedaa", sum := "fc86cab81ea4e17595d5a6201767ebd9716a4ab4369a822e1ab10c6081af2481", func := "mantilla/mantillalaw24.ToneShifts", spec := "toneShifts", inPlace := ["math.Float64bits", "math.Float64frombits", "math.archTrunc"], apart := false }
def ToneShiftsSaid : Prop := toneShiftsRow.holds Try.pinned (OpenSpec.ofChange toneShiftsSpec)

/-- ITS FALSE NEIGHBOUR: 'it returns false'. Refute it at one input. -/
def toneShiftsWrong : ChangeSpec := { name := "toneShifts", fn := fun _ => fun
  | [d1, d2] => { results := [.lit (.bool false)], args := [d1, d2] }
  | _ => none }
def ToneShiftsWrongFalsely : Prop := toneShiftsRow.holds Try.pinned (OpenSpec.ofChange toneShiftsWrong)

/-- 'mantillalaw24.ToneRows': WHATEVER THE INPUT: true; the input reads as it did. -/
def toneRowsSpec : ChangeSpec := { name := "toneRows", fn := fun _ => fun
  | [d1, d2, d3, d4] => { results := [.lit (.bool true)], args := [d1, d2, d3, d4] }
  | _ => none }
def toneRowsRow : OpenClaim := { program := "ytenoldpfclmedaa", sum := "fc86cab81ea4e17595d5a6201767ebd9716a4ab4369a822e1ab10c6081af2481", func := "mantilla/mantillalaw24.ToneRows", spec := "toneRows", inPlace := ["math.Float64bits", "math.Float64frombits", "math.archTrunc"], apart := false }
def ToneRowsSaid : Prop := toneRowsRow.holds Try.pinned (OpenSpec.ofChange toneRowsSpec)

/-- ITS FALSE NEIGHBOUR: 'it returns false'. Refute it at one input. -/
def toneRowsWrong : ChangeSpec := { name := "toneRows", fn := fun _ => fun
  | [d1, d2, d3, d4] => { results := [.lit (.bool false)], args := [d1, d2, d3, d4] }
  | _ => none }
def ToneRowsWrongFalsely : Prop := toneRowsRow.holds Try.pinned (OpenSpec.ofChange toneRowsWrong)

/- THE SECOND FORM. 'bulk': how many values and letters a reading holds, each counted each time it is reached (what is shared counts as often as it is met; a slice's spare places count too). A statement '..UptoSaid' is the law's where the arguments, and the package variables that the reading takes, are together of bulk at most 1048576: NARROWER than '..Said'. Prove '..Said' where nothing that the law and all that it calls make is longer than what came in: it says more and counts as full. Else prove '..UptoSaid'. A law counts once. -/
mutual
def uptoBulk {H : Type} : DataW H → Nat
  | .lit (.string bytes) => bytes.length + 1
  | .lit _ => 1
  | .nil => 1
  | .ptr d => uptoBulk d + 1
  | .slice elems spare => uptoBulkAll elems + uptoBulkAll spare + 1
  | .agg parts => uptoBulkAll parts + 1
  | .iface _ d => uptoBulk d + 1
  | .map entries => uptoBulkEntries entries + 1
  | .held _ => 1
def uptoBulkAll {H : Type} : List (DataW H) → Nat
  | [] => 0
  | d :: r => uptoBulk d + uptoBulkAll r
def uptoBulkEntries {H : Type} : List (Lit × DataW H) → Nat
  | [] => 0
  | x :: r => uptoBulkEntry x + uptoBulkEntries r
def uptoBulkEntry {H : Type} : Lit × DataW H → Nat
  | (.string bytes, d) => bytes.length + uptoBulk d + 1
  | (_, d) => uptoBulk d + 1
 end
def uptoSmall : (H : Type) → List (DataW H) → Bool := fun _ ds => decide (uptoBulkAll ds ≤ 1048576)
def OpenSpec.upto (s : _root_.Go.ChangeSpec) : _root_.Go.OpenSpec := { _root_.Go.OpenSpec.ofChange s with cond := some uptoSmall }

/-- 'mantillalaw24.ToneTells', WHERE WHAT IT READS IS OF BULK AT MOST 1048576: true; the input reads as it did. -/
def toneTellsUptoRow : OpenClaim := { program := "ytenoldpfclmedaa", sum := "fc86cab81ea4e17595d5a6201767ebd9716a4ab4369a822e1ab10c6081af2481", func := "mantilla/mantillalaw24.ToneTells", spec := "toneTells", inPlace := ["math.Float64bits", "math.Float64frombits", "math.archTrunc"], apart := false, narrowed := true }
def ToneTellsUptoSaid : Prop := toneTellsUptoRow.holds Try.pinned (OpenSpec.upto toneTellsSpec)

/-- 'mantillalaw24.ToneBack', WHERE WHAT IT READS IS OF BULK AT MOST 1048576: true; the input reads as it did. -/
def toneBackUptoRow : OpenClaim := { program := "ytenoldpfclmedaa", sum := "fc86cab81ea4e17595d5a6201767ebd9716a4ab4369a822e1ab10c6081af2481", func := "mantilla/mantillalaw24.ToneBack", spec := "toneBack", inPlace := ["math.Float64bits", "math.Float64frombits", "math.archTrunc"], apart := false, narrowed := true }
def ToneBackUptoSaid : Prop := toneBackUptoRow.holds Try.pinned (OpenSpec.upto toneBackSpec)

/-- 'mantillalaw24.ToneTurns', WHERE WHAT IT READS IS OF BULK AT MOST 1048576: true; the input reads as it did. -/
def toneTurnsUptoRow : OpenClaim := { program := "ytenoldpfclmedaa", sum := "fc86cab81ea4e17595d5a6201767ebd9716a4ab4369a822e1ab10c6081af2481", func := "mantilla/mantillalaw24.ToneTurns", spec := "toneTurns", inPlace := ["math.Float64bits", "math.Float64frombits", "math.archTrunc"], apart := false, narrowed := true }
def ToneTurnsUptoSaid : Prop := toneTurnsUptoRow.holds Try.pinned (OpenSpec.upto toneTurnsSpec)

/-- 'mantillalaw24.ToneShifts', WHERE WHAT IT READS IS OF BULK AT MOST 1048576: true; the input reads as it did. -/
def toneShiftsUptoRow : OpenClaim := { program := "ytenoldpfclmedaa", sum := "fc86cab81ea4e17595d5a6201767ebd9716a4ab4369a822e1ab10c6081af2481", func := "mantilla/mantillalaw24.ToneShifts", spec := "toneShifts", inPlace := ["math.Float64bits", "math.Float64frombits", "math.archTrunc"], apart := false, narrowed := true }
def ToneShiftsUptoSaid : Prop := toneShiftsUptoRow.holds Try.pinned (OpenSpec.upto toneShiftsSpec)

/-- 'mantillalaw24.ToneRows', WHERE WHAT IT READS IS OF BULK AT MOST 1048576: true; the input reads as it did. -/
def toneRowsUptoRow : OpenClaim := { program := "ytenoldpfclmedaa", sum := "fc86cab81ea4e17595d5a6201767ebd9716a4ab4369a822e1ab10c6081af2481", func := "mantilla/mantillalaw24.ToneRows", spec := "toneRows", inPlace := ["math.Float64bits", "math.Float64frombits", "math.archTrunc"], apart := false, narrowed := true }
def ToneRowsUptoSaid : Prop := toneRowsUptoRow.holds Try.pinned (OpenSpec.upto toneRowsSpec)

end Rows
end Go.Proofs.Ytenoldpfclmedaa
