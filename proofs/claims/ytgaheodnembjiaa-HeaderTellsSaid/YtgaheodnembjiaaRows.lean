/-
  No cell of these rows narrows 'for every input' (looked for: loops, veiled, ifaces, maps, wideKeys, modest, calm, conditions, laid).
  DERIVED. THE GIVEN ROWS OF THIS SEAT. 6 by the template 'for every input the law returns true; each argument reads behind the call as it read before'; 0 by the template 'total and deterministic' (their statements: YtgaheodnembjiaaTotals.lean).
  GIVEN WITH THE SEED: the statements are not yours to turn. If you find one false, say at which input.
  Laid BY PROGRAM, IN A SANDBOX (cutbox-rows.mjs): the forced cells as the released guide's own fill.sh prints them over the translation e52cafef53739fbb… (all of the seat's roots in one cut). By AI agents, Wed Nov 11 2026. No macro, syntax, notation, axiom, sorry.
-/
import Derived.Test.YtgaheodnembjiaaChecked
import GoSem.Claim
import GoSem.ClaimJoined
import GoSem.ClaimMapViews
import Derived.JoinedTies
import Derived.KernelRfl
namespace Go.Proofs.Ytgaheodnembjiaa
/- THE CELL 'sum', in the pinned program and in every row, IS THE sha256 OF THE DUMP (.gsa) THAT YtgaheodnembjiaaProg.lean LOADS. Nothing in Lean hashes anything: it is a label: what it is worth is what the hold of that sum in a sandbox is worth. -/
noncomputable def Try.pinned : Pinned := { name := "ytgaheodnembjiaa", sum := "e52cafef53739fbbeff8d85a51ce556259ce71a72591c066ea4c1350fb4284db", checked := Try.checked }
namespace Rows
def none {H : Type} : Left H := { results := [], args := [] }

/-- 'mantillalaw6.HeaderTells': WHATEVER THE INPUT: true; the input reads as it did. -/
def headerTellsSpec : ChangeSpec := { name := "headerTells", fn := fun _ => fun
  | [d1, d2, d3] => { results := [.lit (.bool true)], args := [d1, d2, d3] }
  | _ => none }
def headerTellsRow : OpenClaim := { program := "ytgaheodnembjiaa", sum := "e52cafef53739fbbeff8d85a51ce556259ce71a72591c066ea4c1350fb4284db", func := "mantilla/mantillalaw6.HeaderTells", spec := "headerTells", apart := false }
def HeaderTellsSaid : Prop := headerTellsRow.holds Try.pinned (OpenSpec.ofChange headerTellsSpec)

/-- ITS FALSE NEIGHBOUR: 'it returns false'. Refute it at one input. -/
def headerTellsWrong : ChangeSpec := { name := "headerTells", fn := fun _ => fun
  | [d1, d2, d3] => { results := [.lit (.bool false)], args := [d1, d2, d3] }
  | _ => none }
def HeaderTellsWrongFalsely : Prop := headerTellsRow.holds Try.pinned (OpenSpec.ofChange headerTellsWrong)

/-- 'mantillalaw6.HeaderRounds': WHATEVER THE INPUT: true; the input reads as it did. -/
def headerRoundsSpec : ChangeSpec := { name := "headerRounds", fn := fun _ => fun
  | [d1, d2, d3, d4] => { results := [.lit (.bool true)], args := [d1, d2, d3, d4] }
  | _ => none }
def headerRoundsRow : OpenClaim := { program := "ytgaheodnembjiaa", sum := "e52cafef53739fbbeff8d85a51ce556259ce71a72591c066ea4c1350fb4284db", func := "mantilla/mantillalaw6.HeaderRounds", spec := "headerRounds", apart := false }
def HeaderRoundsSaid : Prop := headerRoundsRow.holds Try.pinned (OpenSpec.ofChange headerRoundsSpec)

/-- ITS FALSE NEIGHBOUR: 'it returns false'. Refute it at one input. -/
def headerRoundsWrong : ChangeSpec := { name := "headerRounds", fn := fun _ => fun
  | [d1, d2, d3, d4] => { results := [.lit (.bool false)], args := [d1, d2, d3, d4] }
  | _ => none }
def HeaderRoundsWrongFalsely : Prop := headerRoundsRow.holds Try.pinned (OpenSpec.ofChange headerRoundsWrong)

/-- 'mantillalaw6.HeaderNumbers': WHATEVER THE INPUT: true; the input reads as it did. -/
def headerNumbersSpec : ChangeSpec := { name := "headerNumbers", fn := fun _ => fun
  | [d1, d2, d3, d4, d5, d6] => { results := [.lit (.bool true)], args := [d1, d2, d3, d4, d5, d6] }
  | _ => none }
def headerNumbersRow : OpenClaim := { program := "ytgaheodnembjiaa", sum := "e52cafef53739fbbeff8d85a51ce556259ce71a72591c066ea4c1350fb4284db", func := "mantilla/mantillalaw6.HeaderNumbers", spec := "headerNumbers", apart := false }
def HeaderNumbersSaid : Prop := headerNumbersRow.holds Try.pinned (OpenSpec.ofChange headerNumbersSpec)

/-- ITS FALSE NEIGHBOUR: 'it returns false'. Refute it at one input. -/
def headerNumbersWrong : ChangeSpec := { name := "headerNumbers", fn := fun _ => fun
  | [d1, d2, d3, d4, d5, d6] => { results := [.lit (.bool false)], args := [d1, d2, d3, d4, d5, d6] }
  | _ => none }
def HeaderNumbersWrongFalsely : Prop := headerNumbersRow.holds Try.pinned (OpenSpec.ofChange headerNumbersWrong)

/-- 'mantillalaw6.HeaderWindow': WHATEVER THE INPUT: true; the input reads as it did. -/
def headerWindowSpec : ChangeSpec := { name := "headerWindow", fn := fun _ => fun
  | [d1, d2, d3] => { results := [.lit (.bool true)], args := [d1, d2, d3] }
  | _ => none }
def headerWindowRow : OpenClaim := { program := "ytgaheodnembjiaa", sum := "e52cafef53739fbbeff8d85a51ce556259ce71a72591c066ea4c1350fb4284db", func := "mantilla/mantillalaw6.HeaderWindow", spec := "headerWindow", apart := false }
def HeaderWindowSaid : Prop := headerWindowRow.holds Try.pinned (OpenSpec.ofChange headerWindowSpec)

/-- ITS FALSE NEIGHBOUR: 'it returns false'. Refute it at one input. -/
def headerWindowWrong : ChangeSpec := { name := "headerWindow", fn := fun _ => fun
  | [d1, d2, d3] => { results := [.lit (.bool false)], args := [d1, d2, d3] }
  | _ => none }
def HeaderWindowWrongFalsely : Prop := headerWindowRow.holds Try.pinned (OpenSpec.ofChange headerWindowWrong)

/-- 'mantillalaw6.HeaderBits': WHATEVER THE INPUT: true; the input reads as it did. -/
def headerBitsSpec : ChangeSpec := { name := "headerBits", fn := fun _ => fun
  | [d1, d2, d3, d4, d5] => { results := [.lit (.bool true)], args := [d1, d2, d3, d4, d5] }
  | _ => none }
def headerBitsRow : OpenClaim := { program := "ytgaheodnembjiaa", sum := "e52cafef53739fbbeff8d85a51ce556259ce71a72591c066ea4c1350fb4284db", func := "mantilla/mantillalaw6.HeaderBits", spec := "headerBits", apart := false }
def HeaderBitsSaid : Prop := headerBitsRow.holds Try.pinned (OpenSpec.ofChange headerBitsSpec)

/-- ITS FALSE NEIGHBOUR: 'it returns false'. Refute it at one input. -/
def headerBitsWrong : ChangeSpec := { name := "headerBits", fn := fun _ => fun
  | [d1, d2, d3, d4, d5] => { results := [.lit (.bool false)], args := [d1, d2, d3, d4, d5] }
  | _ => none }
def HeaderBitsWrongFalsely : Prop := headerBitsRow.holds Try.pinned (OpenSpec.ofChange headerBitsWrong)

/-- 'mantillalaw6.HeaderLongs': WHATEVER THE INPUT: true; the input reads as it did. -/
def headerLongsSpec : ChangeSpec := { name := "headerLongs", fn := fun _ => fun
  | [d1, d2, d3, d4, d5, d6, d7, d8] => { results := [.lit (.bool true)], args := [d1, d2, d3, d4, d5, d6, d7, d8] }
  | _ => none }
def headerLongsRow : OpenClaim := { program := "ytgaheodnembjiaa", sum := "e52cafef53739fbbeff8d85a51ce556259ce71a72591c066ea4c1350fb4284db", func := "mantilla/mantillalaw6.HeaderLongs", spec := "headerLongs", apart := false }
def HeaderLongsSaid : Prop := headerLongsRow.holds Try.pinned (OpenSpec.ofChange headerLongsSpec)

/-- ITS FALSE NEIGHBOUR: 'it returns false'. Refute it at one input. -/
def headerLongsWrong : ChangeSpec := { name := "headerLongs", fn := fun _ => fun
  | [d1, d2, d3, d4, d5, d6, d7, d8] => { results := [.lit (.bool false)], args := [d1, d2, d3, d4, d5, d6, d7, d8] }
  | _ => none }
def HeaderLongsWrongFalsely : Prop := headerLongsRow.holds Try.pinned (OpenSpec.ofChange headerLongsWrong)

/- THE SECOND FORM. 'bulk': how many values and letters a reading holds, each counted each time it is reached (what is shared counts as often as it is met; a slice's spare places count too). A statement '..UptoSaid' is the law's where the arguments, and the package variables that the reading takes, are together of bulk at most 1048576: NARROWER than '..Said'. Prove '..Said' where nothing that the law and all that it calls make is longer than what came in: it says more and counts as full. Else prove '..UptoSaid'. A law counts once. -/
mutual
def uptoBulk {H : Type} : DataW H → Nat
  | .lit (.string bytes) => bytes.length + 1
  | .lit _ => 1
  | .nil => 1
  | .ptr d => uptoBulk d + 1
  | .slice elems spare => uptoBulkAll elems + uptoBulkAll spare + 1
  | .agg parts => uptoBulkAll parts + 1
  | .iface _ d => uptoBulk d + 1
  | .map entries => uptoBulkEntries entries + 1
  | .held _ => 1
def uptoBulkAll {H : Type} : List (DataW H) → Nat
  | [] => 0
  | d :: r => uptoBulk d + uptoBulkAll r
def uptoBulkEntries {H : Type} : List (Lit × DataW H) → Nat
  | [] => 0
  | x :: r => uptoBulkEntry x + uptoBulkEntries r
def uptoBulkEntry {H : Type} : Lit × DataW H → Nat
  | (.string bytes, d) => bytes.length + uptoBulk d + 1
  | (_, d) => uptoBulk d + 1
 end
def uptoSmall : (H : Type) → List (DataW H) → Bool := fun _ ds => decide (uptoBulkAll ds ≤ 1048576)
def OpenSpec.upto (s : _root_.Go.ChangeSpec) : _root_.Go.OpenSpec := { _root_.Go.OpenSpec.ofChange s with cond := some uptoSmall }

/-- 'mantillalaw6.HeaderTells', WHERE WHAT IT READS IS OF BULK AT MOST 1048576: true; the input reads as it did. -/
def headerTellsUptoRow : OpenClaim := { program := "ytgaheodnembjiaa", sum := "e52cafef53739fbbeff8d85a51ce556259ce71a72591c066ea4c1350fb4284db", func := "mantilla/mantillalaw6.HeaderTells", spec := "headerTells", apart := false, narrowed := true }
def HeaderTellsUptoSaid : Prop := headerTellsUptoRow.holds Try.pinned (OpenSpec.upto headerTellsSpec)

/-- 'mantillalaw6.HeaderRounds', WHERE WHAT IT READS IS OF BULK AT MOST 1048576: true; the input reads as it did. -/
def headerRoundsUptoRow : OpenClaim := { program := "ytgaheodnembjiaa", sum := "e52cafef53739fbbeff8d85a51ce556259ce71a72591c066ea4c1350fb4284db", func := "mantilla/mantillalaw6.HeaderRounds", spec := "headerRounds", apart := false, narrowed := true }
def HeaderRoundsUptoSaid : Prop := headerRoundsUptoRow.holds Try.pinned (OpenSpec.upto headerRoundsSpec)

/-- 'mantillalaw6.HeaderNumbers', WHERE WHAT IT READS IS OF BULK AT MOST 1048576: true; the input reads as it did. -/
def headerNumbersUptoRow : OpenClaim := { program := "ytgaheodnembjiaa", sum := "e52cafef53739fbbeff8d85a51ce556259ce71a72591c066ea4c1350fb4284db", func := "mantilla/mantillalaw6.HeaderNumbers", spec := "headerNumbers", apart := false, narrowed := true }
def HeaderNumbersUptoSaid : Prop := headerNumbersUptoRow.holds Try.pinned (OpenSpec.upto headerNumbersSpec)

/-- 'mantillalaw6.HeaderWindow', WHERE WHAT IT READS IS OF BULK AT MOST 1048576: true; the input reads as it did. -/
def headerWindowUptoRow : OpenClaim := { program := "ytgaheodnembjiaa", sum := "e52cafef53739fbbeff8d85a51ce556259ce71a72591c066ea4c1350fb4284db", func := "mantilla/mantillalaw6.HeaderWindow", spec := "headerWindow", apart := false, narrowed := true }
def HeaderWindowUptoSaid : Prop := headerWindowUptoRow.holds Try.pinned (OpenSpec.upto headerWindowSpec)

/-- 'mantillalaw6.HeaderBits', WHERE WHAT IT READS IS OF BULK AT MOST 1048576: true; the input reads as it did. -/
def headerBitsUptoRow : OpenClaim := { program := "ytgaheodnembjiaa", sum := "e52cafef53739fbbeff8d85a51ce556259ce71a72591c066ea4c1350fb4284db", func := "mantilla/mantillalaw6.HeaderBits", spec := "headerBits", apart := false, narrowed := true }
def HeaderBitsUptoSaid : Prop := headerBitsUptoRow.holds Try.pinned (OpenSpec.upto headerBitsSpec)

/-- 'mantillalaw6.HeaderLongs', WHERE WHAT IT READS IS OF BULK AT MOST 1048576: true; the input reads as it did. -/
def headerLongsUptoRow : OpenClaim := { program := "ytgaheodnembjiaa", sum := "e52cafef53739fbbeff8d85a51ce556259ce71a72591c066ea4c1350fb4284db", func := "mantilla/mantillalaw6.HeaderLongs", spec := "headerLongs", apart := false, narrowed := true }
def HeaderLongsUptoSaid : Prop := headerLongsUptoRow.holds Try.pinned (OpenSpec.upto headerLongsSpec)

end Rows
end Go.Proofs.Ytgaheodnembjiaa
