/-
  No cell of these rows narrows 'for every input' (looked for: loops, veiled, ifaces, maps, wideKeys, modest, calm, conditions, laid).
  DERIVED. THE GIVEN ROWS OF THIS SEAT. 6 by the template 'for every input the law returns true; each argument reads behind the call as it read before'; 0 by the template 'total and deterministic' (their statements: YtdfblojnkchpdaaTotals.lean).
  GIVEN WITH THE SEED: the statements are not yours to turn. If you find one false, say at which input.
  Laid BY PROGRAM, IN A SANDBOX (cutbox-rows.mjs): the forced cells as the released guide's own fill.sh prints them over the translation 3206e3398813fd4a… (all of the seat's roots in one cut). By AI agents, Wed Nov 11 2026. No macro, syntax, notation, axiom, sorry.
-/
import Derived.Test.YtdfblojnkchpdaaChecked
import GoSem.Claim
import GoSem.ClaimJoined
import GoSem.ClaimMapViews
import Derived.JoinedTies
import Derived.KernelRfl
namespace Go.Proofs.Ytdfblojnkchpdaa
/- THE CELL 'sum', in the pinned program and in every row, IS THE sha256 OF THE DUMP (.gsa) THAT YtdfblojnkchpdaaProg.lean LOADS. Nothing in Lean hashes anything: it is a label: what it is worth is what the hold of that sum in a sandbox is worth. -/
noncomputable def Try.pinned : Pinned := { name := "ytdfblojnkchpdaa", sum := "3206e3398813fd4a4354b9a45ff198c436ad516a5edfc8f42936c8b544471ff8", checked := Try.checked }
namespace Rows
def none {H : Type} : Left H := { results := [], args := [] }

/-- 'mantillalaw5.GcmTells': WHATEVER THE INPUT: true; the input reads as it did. -/
def gcmTellsSpec : ChangeSpec := { name := "gcmTells", fn := fun _ => fun
  | [d1, d2, d3, d4, d5] => { results := [.lit (.bool true)], args := [d1, d2, d3, d4, d5] }
  | _ => none }
def gcmTellsRow : OpenClaim := { program := "ytdfblojnkchpdaa", sum := "3206e3398813fd4a4354b9a45ff198c436ad516a5edfc8f42936c8b544471ff8", func := "mantilla/mantillalaw5.GcmTells", spec := "gcmTells", apart := false }
def GcmTellsSaid : Prop := gcmTellsRow.holds Try.pinned (OpenSpec.ofChange gcmTellsSpec)

/-- ITS FALSE NEIGHBOUR: 'it returns false'. Refute it at one input. -/
def gcmTellsWrong : ChangeSpec := { name := "gcmTells", fn := fun _ => fun
  | [d1, d2, d3, d4, d5] => { results := [.lit (.bool false)], args := [d1, d2, d3, d4, d5] }
  | _ => none }
def GcmTellsWrongFalsely : Prop := gcmTellsRow.holds Try.pinned (OpenSpec.ofChange gcmTellsWrong)

/-- 'mantillalaw5.GcmTurned': WHATEVER THE INPUT: true; the input reads as it did. -/
def gcmTurnedSpec : ChangeSpec := { name := "gcmTurned", fn := fun _ => fun
  | [d1, d2, d3, d4, d5, d6] => { results := [.lit (.bool true)], args := [d1, d2, d3, d4, d5, d6] }
  | _ => none }
def gcmTurnedRow : OpenClaim := { program := "ytdfblojnkchpdaa", sum := "3206e3398813fd4a4354b9a45ff198c436ad516a5edfc8f42936c8b544471ff8", func := "mantilla/mantillalaw5.GcmTurned", spec := "gcmTurned", apart := false }
def GcmTurnedSaid : Prop := gcmTurnedRow.holds Try.pinned (OpenSpec.ofChange gcmTurnedSpec)

/-- ITS FALSE NEIGHBOUR: 'it returns false'. Refute it at one input. -/
def gcmTurnedWrong : ChangeSpec := { name := "gcmTurned", fn := fun _ => fun
  | [d1, d2, d3, d4, d5, d6] => { results := [.lit (.bool false)], args := [d1, d2, d3, d4, d5, d6] }
  | _ => none }
def GcmTurnedWrongFalsely : Prop := gcmTurnedRow.holds Try.pinned (OpenSpec.ofChange gcmTurnedWrong)

/-- 'mantillalaw5.GcmStreams': WHATEVER THE INPUT: true; the input reads as it did. -/
def gcmStreamsSpec : ChangeSpec := { name := "gcmStreams", fn := fun _ => fun
  | [d1, d2, d3, d4] => { results := [.lit (.bool true)], args := [d1, d2, d3, d4] }
  | _ => none }
def gcmStreamsRow : OpenClaim := { program := "ytdfblojnkchpdaa", sum := "3206e3398813fd4a4354b9a45ff198c436ad516a5edfc8f42936c8b544471ff8", func := "mantilla/mantillalaw5.GcmStreams", spec := "gcmStreams", apart := false }
def GcmStreamsSaid : Prop := gcmStreamsRow.holds Try.pinned (OpenSpec.ofChange gcmStreamsSpec)

/-- ITS FALSE NEIGHBOUR: 'it returns false'. Refute it at one input. -/
def gcmStreamsWrong : ChangeSpec := { name := "gcmStreams", fn := fun _ => fun
  | [d1, d2, d3, d4] => { results := [.lit (.bool false)], args := [d1, d2, d3, d4] }
  | _ => none }
def GcmStreamsWrongFalsely : Prop := gcmStreamsRow.holds Try.pinned (OpenSpec.ofChange gcmStreamsWrong)

/-- 'mantillalaw5.GcmParts': WHATEVER THE INPUT: true; the input reads as it did. -/
def gcmPartsSpec : ChangeSpec := { name := "gcmParts", fn := fun _ => fun
  | [d1, d2, d3, d4, d5] => { results := [.lit (.bool true)], args := [d1, d2, d3, d4, d5] }
  | _ => none }
def gcmPartsRow : OpenClaim := { program := "ytdfblojnkchpdaa", sum := "3206e3398813fd4a4354b9a45ff198c436ad516a5edfc8f42936c8b544471ff8", func := "mantilla/mantillalaw5.GcmParts", spec := "gcmParts", apart := false }
def GcmPartsSaid : Prop := gcmPartsRow.holds Try.pinned (OpenSpec.ofChange gcmPartsSpec)

/-- ITS FALSE NEIGHBOUR: 'it returns false'. Refute it at one input. -/
def gcmPartsWrong : ChangeSpec := { name := "gcmParts", fn := fun _ => fun
  | [d1, d2, d3, d4, d5] => { results := [.lit (.bool false)], args := [d1, d2, d3, d4, d5] }
  | _ => none }
def GcmPartsWrongFalsely : Prop := gcmPartsRow.holds Try.pinned (OpenSpec.ofChange gcmPartsWrong)

/-- 'mantillalaw5.GcmFields': WHATEVER THE INPUT: true; the input reads as it did. -/
def gcmFieldsSpec : ChangeSpec := { name := "gcmFields", fn := fun _ => fun
  | [d1, d2, d3, d4, d5] => { results := [.lit (.bool true)], args := [d1, d2, d3, d4, d5] }
  | _ => none }
def gcmFieldsRow : OpenClaim := { program := "ytdfblojnkchpdaa", sum := "3206e3398813fd4a4354b9a45ff198c436ad516a5edfc8f42936c8b544471ff8", func := "mantilla/mantillalaw5.GcmFields", spec := "gcmFields", apart := false }
def GcmFieldsSaid : Prop := gcmFieldsRow.holds Try.pinned (OpenSpec.ofChange gcmFieldsSpec)

/-- ITS FALSE NEIGHBOUR: 'it returns false'. Refute it at one input. -/
def gcmFieldsWrong : ChangeSpec := { name := "gcmFields", fn := fun _ => fun
  | [d1, d2, d3, d4, d5] => { results := [.lit (.bool false)], args := [d1, d2, d3, d4, d5] }
  | _ => none }
def GcmFieldsWrongFalsely : Prop := gcmFieldsRow.holds Try.pinned (OpenSpec.ofChange gcmFieldsWrong)

/-- 'mantillalaw5.GcmAdds': WHATEVER THE INPUT: true; the input reads as it did. -/
def gcmAddsSpec : ChangeSpec := { name := "gcmAdds", fn := fun _ => fun
  | [d1, d2, d3, d4, d5] => { results := [.lit (.bool true)], args := [d1, d2, d3, d4, d5] }
  | _ => none }
def gcmAddsRow : OpenClaim := { program := "ytdfblojnkchpdaa", sum := "3206e3398813fd4a4354b9a45ff198c436ad516a5edfc8f42936c8b544471ff8", func := "mantilla/mantillalaw5.GcmAdds", spec := "gcmAdds", apart := false }
def GcmAddsSaid : Prop := gcmAddsRow.holds Try.pinned (OpenSpec.ofChange gcmAddsSpec)

/-- ITS FALSE NEIGHBOUR: 'it returns false'. Refute it at one input. -/
def gcmAddsWrong : ChangeSpec := { name := "gcmAdds", fn := fun _ => fun
  | [d1, d2, d3, d4, d5] => { results := [.lit (.bool false)], args := [d1, d2, d3, d4, d5] }
  | _ => none }
def GcmAddsWrongFalsely : Prop := gcmAddsRow.holds Try.pinned (OpenSpec.ofChange gcmAddsWrong)

/- THE SECOND FORM. 'bulk': how many values and letters a reading holds, each counted each time it is reached (what is shared counts as often as it is met; a slice's spare places count too). A statement '..UptoSaid' is the law's where the arguments, and the package variables that the reading takes, are together of bulk at most 1048576: NARROWER than '..Said'. Prove '..Said' where nothing that the law and all that it calls make is longer than what came in: it says more and counts as full. Else prove '..UptoSaid'. A law counts once. -/
mutual
def uptoBulk {H : Type} : DataW H → Nat
  | .lit (.string bytes) => bytes.length + 1
  | .lit _ => 1
  | .nil => 1
  | .ptr d => uptoBulk d + 1
  | .slice elems spare => uptoBulkAll elems + uptoBulkAll spare + 1
  | .agg parts => uptoBulkAll parts + 1
  | .iface _ d => uptoBulk d + 1
  | .map entries => uptoBulkEntries entries + 1
  | .held _ => 1
def uptoBulkAll {H : Type} : List (DataW H) → Nat
  | [] => 0
  | d :: r => uptoBulk d + uptoBulkAll r
def uptoBulkEntries {H : Type} : List (Lit × DataW H) → Nat
  | [] => 0
  | x :: r => uptoBulkEntry x + uptoBulkEntries r
def uptoBulkEntry {H : Type} : Lit × DataW H → Nat
  | (.string bytes, d) => bytes.length + uptoBulk d + 1
  | (_, d) => uptoBulk d + 1
 end
def uptoSmall : (H : Type) → List (DataW H) → Bool := fun _ ds => decide (uptoBulkAll ds ≤ 1048576)
def OpenSpec.upto (s : _root_.Go.ChangeSpec) : _root_.Go.OpenSpec := { _root_.Go.OpenSpec.ofChange s with cond := some uptoSmall }

/-- 'mantillalaw5.GcmTells', WHERE WHAT IT READS IS OF BULK AT MOST 1048576: true; the input reads as it did. -/
def gcmTellsUptoRow : OpenClaim := { program := "ytdfblojnkchpdaa", sum := "3206e3398813fd4a4354b9a45ff198c436ad516a5edfc8f42936c8b544471ff8", func := "mantilla/mantillalaw5.GcmTells", spec := "gcmTells", apart := false, narrowed := true }
def GcmTellsUptoSaid : Prop := gcmTellsUptoRow.holds Try.pinned (OpenSpec.upto gcmTellsSpec)

/-- 'mantillalaw5.GcmTurned', WHERE WHAT IT READS IS OF BULK AT MOST 1048576: true; the input reads as it did. -/
def gcmTurnedUptoRow : OpenClaim := { program := "ytdfblojnkchpdaa", sum := "3206e3398813fd4a4354b9a45ff198c436ad516a5edfc8f42936c8b544471ff8", func := "mantilla/mantillalaw5.GcmTurned", spec := "gcmTurned", apart := false, narrowed := true }
def GcmTurnedUptoSaid : Prop := gcmTurnedUptoRow.holds Try.pinned (OpenSpec.upto gcmTurnedSpec)

/-- 'mantillalaw5.GcmStreams', WHERE WHAT IT READS IS OF BULK AT MOST 1048576: true; the input reads as it did. -/
def gcmStreamsUptoRow : OpenClaim := { program := "ytdfblojnkchpdaa", sum := "3206e3398813fd4a4354b9a45ff198c436ad516a5edfc8f42936c8b544471ff8", func := "mantilla/mantillalaw5.GcmStreams", spec := "gcmStreams", apart := false, narrowed := true }
def GcmStreamsUptoSaid : Prop := gcmStreamsUptoRow.holds Try.pinned (OpenSpec.upto gcmStreamsSpec)

/-- 'mantillalaw5.GcmParts', WHERE WHAT IT READS IS OF BULK AT MOST 1048576: true; the input reads as it did. -/
def gcmPartsUptoRow : OpenClaim := { program := "ytdfblojnkchpdaa", sum := "3206e3398813fd4a4354b9a45ff198c436ad516a5edfc8f42936c8b544471ff8", func := "mantilla/mantillalaw5.GcmParts", spec := "gcmParts", apart := false, narrowed := true }
def GcmPartsUptoSaid : Prop := gcmPartsUptoRow.holds Try.pinned (OpenSpec.upto gcmPartsSpec)

/-- 'mantillalaw5.GcmFields', WHERE WHAT IT READS IS OF BULK AT MOST 1048576: true; the input reads as it did. -/
def gcmFieldsUptoRow : OpenClaim := { program := "ytdfblojnkchpdaa", sum := "3206e3398813fd4a4354b9a45ff198c436ad516a5edfc8f42936c8b544471ff8", func := "mantilla/mantillalaw5.GcmFields", spec := "gcmFields", apart := false, narrowed := true }
def GcmFieldsUptoSaid : Prop := gcmFieldsUptoRow.holds Try.pinned (OpenSpec.upto gcmFieldsSpec)

/-- 'mantillalaw5.GcmAdds', WHERE WHAT IT READS IS OF BULK AT MOST 1048576: true; the input reads as it did. -/
def gcmAddsUptoRow : OpenClaim := { program := "ytdfblojnkchpdaa", sum := "3206e3398813fd4a4354b9a45ff198c436ad516a5edfc8f42936c8b544471ff8", func := "mantilla/mantillalaw5.GcmAdds", spec := "gcmAdds", apart := false, narrowed := true }
def GcmAddsUptoSaid : Prop := gcmAddsUptoRow.holds Try.pinned (OpenSpec.upto gcmAddsSpec)

end Rows
end Go.Proofs.Ytdfblojnkchpdaa
