/-
  No cell of these rows narrows 'for every input' (looked for: loops, veiled, ifaces, maps, wideKeys, modest, calm, conditions, laid).
  DERIVED. THE GIVEN ROWS OF THIS SEAT. 10 by the template 'for every input the law returns true; each argument reads behind the call as it read before'; 0 by the template 'total and deterministic' (their statements: YtipniobgijdlkaaTotals.lean).
  GIVEN WITH THE SEED: the statements are not yours to turn. If you find one false, say at which input.
  Laid BY PROGRAM, IN A SANDBOX (cutbox-rows.mjs): the forced cells as the released guide's own fill.sh prints them over the translation e14567cee38d2e56… (all of the seat's roots in one cut). By AI agents, Wed Nov 11 2026. No macro, syntax, notation, axiom, sorry.
-/
import Derived.Test.YtipniobgijdlkaaChecked
import GoSem.Claim
import GoSem.ClaimJoined
import GoSem.ClaimMapViews
import Derived.JoinedTies
import Derived.KernelRfl
namespace Go.Proofs.Ytipniobgijdlkaa
/- THE CELL 'sum', in the pinned program and in every row, IS THE sha256 OF THE DUMP (.gsa) THAT YtipniobgijdlkaaProg.lean LOADS. Nothing in Lean hashes anything: it is a label: what it is worth is what the hold of that sum in a sandbox is worth. -/
noncomputable def Try.pinned : Pinned := { name := "ytipniobgijdlkaa", sum := "e14567cee38d2e56992ecc85c1fa60d7fc4ae40094a669f831fe3c2f7d48099e", checked := Try.checked }
namespace Rows
def none {H : Type} : Left H := { results := [], args := [] }

/-- 'mantillalaw23.PackData': WHATEVER THE INPUT: true; the input reads as it did. -/
def packDataSpec : ChangeSpec := { name := "packData", fn := fun _ => fun
  | [d1, d2, d3] => { results := [.lit (.bool true)], args := [d1, d2, d3] }
  | _ => none }
def packDataRow : OpenClaim := { program := "ytipniobgijdlkaa", sum := "e14567cee38d2e56992ecc85c1fa60d7fc4ae40094a669f831fe3c2f7d48099e", func := "mantilla/mantillalaw23.PackData", spec := "packData", apart := false }
def PackDataSaid : Prop := packDataRow.holds Try.pinned (OpenSpec.ofChange packDataSpec)

/-- ITS FALSE NEIGHBOUR: 'it returns false'. Refute it at one input. -/
def packDataWrong : ChangeSpec := { name := "packData", fn := fun _ => fun
  | [d1, d2, d3] => { results := [.lit (.bool false)], args := [d1, d2, d3] }
  | _ => none }
def PackDataWrongFalsely : Prop := packDataRow.holds Try.pinned (OpenSpec.ofChange packDataWrong)

/-- 'mantillalaw23.PackRows': WHATEVER THE INPUT: true; the input reads as it did. -/
def packRowsSpec : ChangeSpec := { name := "packRows", fn := fun _ => fun
  | [d1, d2] => { results := [.lit (.bool true)], args := [d1, d2] }
  | _ => none }
def packRowsRow : OpenClaim := { program := "ytipniobgijdlkaa", sum := "e14567cee38d2e56992ecc85c1fa60d7fc4ae40094a669f831fe3c2f7d48099e", func := "mantilla/mantillalaw23.PackRows", spec := "packRows", apart := false }
def PackRowsSaid : Prop := packRowsRow.holds Try.pinned (OpenSpec.ofChange packRowsSpec)

/-- ITS FALSE NEIGHBOUR: 'it returns false'. Refute it at one input. -/
def packRowsWrong : ChangeSpec := { name := "packRows", fn := fun _ => fun
  | [d1, d2] => { results := [.lit (.bool false)], args := [d1, d2] }
  | _ => none }
def PackRowsWrongFalsely : Prop := packRowsRow.holds Try.pinned (OpenSpec.ofChange packRowsWrong)

/-- 'mantillalaw23.PackRooms': WHATEVER THE INPUT: true; the input reads as it did. -/
def packRoomsSpec : ChangeSpec := { name := "packRooms", fn := fun _ => fun
  | [d1, d2, d3] => { results := [.lit (.bool true)], args := [d1, d2, d3] }
  | _ => none }
def packRoomsRow : OpenClaim := { program := "ytipniobgijdlkaa", sum := "e14567cee38d2e56992ecc85c1fa60d7fc4ae40094a669f831fe3c2f7d48099e", func := "mantilla/mantillalaw23.PackRooms", spec := "packRooms", apart := false }
def PackRoomsSaid : Prop := packRoomsRow.holds Try.pinned (OpenSpec.ofChange packRoomsSpec)

/-- ITS FALSE NEIGHBOUR: 'it returns false'. Refute it at one input. -/
def packRoomsWrong : ChangeSpec := { name := "packRooms", fn := fun _ => fun
  | [d1, d2, d3] => { results := [.lit (.bool false)], args := [d1, d2, d3] }
  | _ => none }
def PackRoomsWrongFalsely : Prop := packRoomsRow.holds Try.pinned (OpenSpec.ofChange packRoomsWrong)

/-- 'mantillalaw7.FrameTells': WHATEVER THE INPUT: true; the input reads as it did. -/
def frameTellsSpec : ChangeSpec := { name := "frameTells", fn := fun _ => fun
  | [d1, d2] => { results := [.lit (.bool true)], args := [d1, d2] }
  | _ => none }
def frameTellsRow : OpenClaim := { program := "ytipniobgijdlkaa", sum := "e14567cee38d2e56992ecc85c1fa60d7fc4ae40094a669f831fe3c2f7d48099e", func := "mantilla/mantillalaw7.FrameTells", spec := "frameTells", apart := false }
def FrameTellsSaid : Prop := frameTellsRow.holds Try.pinned (OpenSpec.ofChange frameTellsSpec)

/-- ITS FALSE NEIGHBOUR: 'it returns false'. Refute it at one input. -/
def frameTellsWrong : ChangeSpec := { name := "frameTells", fn := fun _ => fun
  | [d1, d2] => { results := [.lit (.bool false)], args := [d1, d2] }
  | _ => none }
def FrameTellsWrongFalsely : Prop := frameTellsRow.holds Try.pinned (OpenSpec.ofChange frameTellsWrong)

/-- 'mantillalaw7.FrameReads': WHATEVER THE INPUT: true; the input reads as it did. -/
def frameReadsSpec : ChangeSpec := { name := "frameReads", fn := fun _ => fun
  | [d] => { results := [.lit (.bool true)], args := [d] }
  | _ => none }
def frameReadsRow : OpenClaim := { program := "ytipniobgijdlkaa", sum := "e14567cee38d2e56992ecc85c1fa60d7fc4ae40094a669f831fe3c2f7d48099e", func := "mantilla/mantillalaw7.FrameReads", spec := "frameReads", apart := false }
def FrameReadsSaid : Prop := frameReadsRow.holds Try.pinned (OpenSpec.ofChange frameReadsSpec)

/-- ITS FALSE NEIGHBOUR: 'it returns false'. Refute it at one input. -/
def frameReadsWrong : ChangeSpec := { name := "frameReads", fn := fun _ => fun
  | [d] => { results := [.lit (.bool false)], args := [d] }
  | _ => none }
def FrameReadsWrongFalsely : Prop := frameReadsRow.holds Try.pinned (OpenSpec.ofChange frameReadsWrong)

/-- 'mantillalaw7.FrameRows': WHATEVER THE INPUT: true; the input reads as it did. -/
def frameRowsSpec : ChangeSpec := { name := "frameRows", fn := fun _ => fun
  | [d1, d2, d3] => { results := [.lit (.bool true)], args := [d1, d2, d3] }
  | _ => none }
def frameRowsRow : OpenClaim := { program := "ytipniobgijdlkaa", sum := "e14567cee38d2e56992ecc85c1fa60d7fc4ae40094a669f831fe3c2f7d48099e", func := "mantilla/mantillalaw7.FrameRows", spec := "frameRows", apart := false }
def FrameRowsSaid : Prop := frameRowsRow.holds Try.pinned (OpenSpec.ofChange frameRowsSpec)

/-- ITS FALSE NEIGHBOUR: 'it returns false'. Refute it at one input. -/
def frameRowsWrong : ChangeSpec := { name := "frameRows", fn := fun _ => fun
  | [d1, d2, d3] => { results := [.lit (.bool false)], args := [d1, d2, d3] }
  | _ => none }
def FrameRowsWrongFalsely : Prop := frameRowsRow.holds Try.pinned (OpenSpec.ofChange frameRowsWrong)

/-- 'mantillalaw7.FrameAcks': WHATEVER THE INPUT: true; the input reads as it did. -/
def frameAcksSpec : ChangeSpec := { name := "frameAcks", fn := fun _ => fun
  | [d1, d2, d3] => { results := [.lit (.bool true)], args := [d1, d2, d3] }
  | _ => none }
def frameAcksRow : OpenClaim := { program := "ytipniobgijdlkaa", sum := "e14567cee38d2e56992ecc85c1fa60d7fc4ae40094a669f831fe3c2f7d48099e", func := "mantilla/mantillalaw7.FrameAcks", spec := "frameAcks", apart := false }
def FrameAcksSaid : Prop := frameAcksRow.holds Try.pinned (OpenSpec.ofChange frameAcksSpec)

/-- ITS FALSE NEIGHBOUR: 'it returns false'. Refute it at one input. -/
def frameAcksWrong : ChangeSpec := { name := "frameAcks", fn := fun _ => fun
  | [d1, d2, d3] => { results := [.lit (.bool false)], args := [d1, d2, d3] }
  | _ => none }
def FrameAcksWrongFalsely : Prop := frameAcksRow.holds Try.pinned (OpenSpec.ofChange frameAcksWrong)

/-- 'mantillalaw7.FrameJoins': WHATEVER THE INPUT: true; the input reads as it did. -/
def frameJoinsSpec : ChangeSpec := { name := "frameJoins", fn := fun _ => fun
  | [d] => { results := [.lit (.bool true)], args := [d] }
  | _ => none }
def frameJoinsRow : OpenClaim := { program := "ytipniobgijdlkaa", sum := "e14567cee38d2e56992ecc85c1fa60d7fc4ae40094a669f831fe3c2f7d48099e", func := "mantilla/mantillalaw7.FrameJoins", spec := "frameJoins", apart := false }
def FrameJoinsSaid : Prop := frameJoinsRow.holds Try.pinned (OpenSpec.ofChange frameJoinsSpec)

/-- ITS FALSE NEIGHBOUR: 'it returns false'. Refute it at one input. -/
def frameJoinsWrong : ChangeSpec := { name := "frameJoins", fn := fun _ => fun
  | [d] => { results := [.lit (.bool false)], args := [d] }
  | _ => none }
def FrameJoinsWrongFalsely : Prop := frameJoinsRow.holds Try.pinned (OpenSpec.ofChange frameJoinsWrong)

/-- 'mantillalaw7.FrameSizes': WHATEVER THE INPUT: true; the input reads as it did. -/
def frameSizesSpec : ChangeSpec := { name := "frameSizes", fn := fun _ => fun
  | [d1, d2, d3, d4] => { results := [.lit (.bool true)], args := [d1, d2, d3, d4] }
  | _ => none }
def frameSizesRow : OpenClaim := { program := "ytipniobgijdlkaa", sum := "e14567cee38d2e56992ecc85c1fa60d7fc4ae40094a669f831fe3c2f7d48099e", func := "mantilla/mantillalaw7.FrameSizes", spec := "frameSizes", apart := false }
def FrameSizesSaid : Prop := frameSizesRow.holds Try.pinned (OpenSpec.ofChange frameSizesSpec)

/-- ITS FALSE NEIGHBOUR: 'it returns false'. Refute it at one input. -/
def frameSizesWrong : ChangeSpec := { name := "frameSizes", fn := fun _ => fun
  | [d1, d2, d3, d4] => { results := [.lit (.bool false)], args := [d1, d2, d3, d4] }
  | _ => none }
def FrameSizesWrongFalsely : Prop := frameSizesRow.holds Try.pinned (OpenSpec.ofChange frameSizesWrong)

/-- 'mantillalaw7.FrameZeros': WHATEVER THE INPUT: true; the input reads as it did. -/
def frameZerosSpec : ChangeSpec := { name := "frameZeros", fn := fun _ => fun
  | [d1, d2] => { results := [.lit (.bool true)], args := [d1, d2] }
  | _ => none }
def frameZerosRow : OpenClaim := { program := "ytipniobgijdlkaa", sum := "e14567cee38d2e56992ecc85c1fa60d7fc4ae40094a669f831fe3c2f7d48099e", func := "mantilla/mantillalaw7.FrameZeros", spec := "frameZeros", apart := false }
def FrameZerosSaid : Prop := frameZerosRow.holds Try.pinned (OpenSpec.ofChange frameZerosSpec)

/-- ITS FALSE NEIGHBOUR: 'it returns false'. Refute it at one input. -/
def frameZerosWrong : ChangeSpec := { name := "frameZeros", fn := fun _ => fun
  | [d1, d2] => { results := [.lit (.bool false)], args := [d1, d2] }
  | _ => none }
def FrameZerosWrongFalsely : Prop := frameZerosRow.holds Try.pinned (OpenSpec.ofChange frameZerosWrong)

/- THE SECOND FORM. 'bulk': how many values and letters a reading holds, each counted each time it is reached (what is shared counts as often as it is met; a slice's spare places count too). A statement '..UptoSaid' is the law's where the arguments, and the package variables that the reading takes, are together of bulk at most 1048576: NARROWER than '..Said'. Prove '..Said' where nothing that the law and all that it calls make is longer than what came in: it says more and counts as full. Else prove '..UptoSaid'. A law counts once. -/
mutual
def uptoBulk {H : Type} : DataW H → Nat
  | .lit (.string bytes) => bytes.length + 1
  | .lit _ => 1
  | .nil => 1
  | .ptr d => uptoBulk d + 1
  | .slice elems spare => uptoBulkAll elems + uptoBulkAll spare + 1
  | .agg parts => uptoBulkAll parts + 1
  | .iface _ d => uptoBulk d + 1
  | .map entries => uptoBulkEntries entries + 1
  | .held _ => 1
def uptoBulkAll {H : Type} : List (DataW H) → Nat
  | [] => 0
  | d :: r => uptoBulk d + uptoBulkAll r
def uptoBulkEntries {H : Type} : List (Lit × DataW H) → Nat
  | [] => 0
  | x :: r => uptoBulkEntry x + uptoBulkEntries r
def uptoBulkEntry {H : Type} : Lit × DataW H → Nat
  | (.string bytes, d) => bytes.length + uptoBulk d + 1
  | (_, d) => uptoBulk d + 1
 end
def uptoSmall : (H : Type) → List (DataW H) → Bool := fun _ ds => decide (uptoBulkAll ds ≤ 1048576)
def OpenSpec.upto (s : _root_.Go.ChangeSpec) : _root_.Go.OpenSpec := { _root_.Go.OpenSpec.ofChange s with cond := some uptoSmall }

/-- 'mantillalaw23.PackData', WHERE WHAT IT READS IS OF BULK AT MOST 1048576: true; the input reads as it did. -/
def packDataUptoRow : OpenClaim := { program := "ytipniobgijdlkaa", sum := "e14567cee38d2e56992ecc85c1fa60d7fc4ae40094a669f831fe3c2f7d48099e", func := "mantilla/mantillalaw23.PackData", spec := "packData", apart := false, narrowed := true }
def PackDataUptoSaid : Prop := packDataUptoRow.holds Try.pinned (OpenSpec.upto packDataSpec)

/-- 'mantillalaw23.PackRows', WHERE WHAT IT READS IS OF BULK AT MOST 1048576: true; the input reads as it did. -/
def packRowsUptoRow : OpenClaim := { program := "ytipniobgijdlkaa", sum := "e14567cee38d2e56992ecc85c1fa60d7fc4ae40094a669f831fe3c2f7d48099e", func := "mantilla/mantillalaw23.PackRows", spec := "packRows", apart := false, narrowed := true }
def PackRowsUptoSaid : Prop := packRowsUptoRow.holds Try.pinned (OpenSpec.upto packRowsSpec)

/-- 'mantillalaw23.PackRooms', WHERE WHAT IT READS IS OF BULK AT MOST 1048576: true; the input reads as it did. -/
def packRoomsUptoRow : OpenClaim := { program := "ytipniobgijdlkaa", sum := "e14567cee38d2e56992ecc85c1fa60d7fc4ae40094a669f831fe3c2f7d48099e", func := "mantilla/mantillalaw23.PackRooms", spec := "packRooms", apart := false, narrowed := true }
def PackRoomsUptoSaid : Prop := packRoomsUptoRow.holds Try.pinned (OpenSpec.upto packRoomsSpec)

/-- 'mantillalaw7.FrameTells', WHERE WHAT IT READS IS OF BULK AT MOST 1048576: true; the input reads as it did. -/
def frameTellsUptoRow : OpenClaim := { program := "ytipniobgijdlkaa", sum := "e14567cee38d2e56992ecc85c1fa60d7fc4ae40094a669f831fe3c2f7d48099e", func := "mantilla/mantillalaw7.FrameTells", spec := "frameTells", apart := false, narrowed := true }
def FrameTellsUptoSaid : Prop := frameTellsUptoRow.holds Try.pinned (OpenSpec.upto frameTellsSpec)

/-- 'mantillalaw7.FrameReads', WHERE WHAT IT READS IS OF BULK AT MOST 1048576: true; the input reads as it did. -/
def frameReadsUptoRow : OpenClaim := { program := "ytipniobgijdlkaa", sum := "e14567cee38d2e56992ecc85c1fa60d7fc4ae40094a669f831fe3c2f7d48099e", func := "mantilla/mantillalaw7.FrameReads", spec := "frameReads", apart := false, narrowed := true }
def FrameReadsUptoSaid : Prop := frameReadsUptoRow.holds Try.pinned (OpenSpec.upto frameReadsSpec)

/-- 'mantillalaw7.FrameRows', WHERE WHAT IT READS IS OF BULK AT MOST 1048576: true; the input reads as it did. -/
def frameRowsUptoRow : OpenClaim := { program := "ytipniobgijdlkaa", sum := "e14567cee38d2e56992ecc85c1fa60d7fc4ae40094a669f831fe3c2f7d48099e", func := "mantilla/mantillalaw7.FrameRows", spec := "frameRows", apart := false, narrowed := true }
def FrameRowsUptoSaid : Prop := frameRowsUptoRow.holds Try.pinned (OpenSpec.upto frameRowsSpec)

/-- 'mantillalaw7.FrameAcks', WHERE WHAT IT READS IS OF BULK AT MOST 1048576: true; the input reads as it did. -/
def frameAcksUptoRow : OpenClaim := { program := "ytipniobgijdlkaa", sum := "e14567cee38d2e56992ecc85c1fa60d7fc4ae40094a669f831fe3c2f7d48099e", func := "mantilla/mantillalaw7.FrameAcks", spec := "frameAcks", apart := false, narrowed := true }
def FrameAcksUptoSaid : Prop := frameAcksUptoRow.holds Try.pinned (OpenSpec.upto frameAcksSpec)

/-- 'mantillalaw7.FrameJoins', WHERE WHAT IT READS IS OF BULK AT MOST 1048576: true; the input reads as it did. -/
def frameJoinsUptoRow : OpenClaim := { program := "ytipniobgijdlkaa", sum := "e14567cee38d2e56992ecc85c1fa60d7fc4ae40094a669f831fe3c2f7d48099e", func := "mantilla/mantillalaw7.FrameJoins", spec := "frameJoins", apart := false, narrowed := true }
def FrameJoinsUptoSaid : Prop := frameJoinsUptoRow.holds Try.pinned (OpenSpec.upto frameJoinsSpec)

/-- 'mantillalaw7.FrameSizes', WHERE WHAT IT READS IS OF BULK AT MOST 1048576: true; the input reads as it did. -/
def frameSizesUptoRow : OpenClaim := { program := "ytipniobgijdlkaa", sum := "e14567cee38d2e56992ecc85c1fa60d7fc4ae40094a669f831fe3c2f7d48099e", func := "mantilla/mantillalaw7.FrameSizes", spec := "frameSizes", apart := false, narrowed := true }
def FrameSizesUptoSaid : Prop := frameSizesUptoRow.holds Try.pinned (OpenSpec.upto frameSizesSpec)

/-- 'mantillalaw7.FrameZeros', WHERE WHAT IT READS IS OF BULK AT MOST 1048576: true; the input reads as it did. -/
def frameZerosUptoRow : OpenClaim := { program := "ytipniobgijdlkaa", sum := "e14567cee38d2e56992ecc85c1fa60d7fc4ae40094a669f831fe3c2f7d48099e", func := "mantilla/mantillalaw7.FrameZeros", spec := "frameZeros", apart := false, narrowed := true }
def FrameZerosUptoSaid : Prop := frameZerosUptoRow.holds Try.pinned (OpenSpec.upto frameZerosSpec)

end Rows
end Go.Proofs.Ytipniobgijdlkaa
