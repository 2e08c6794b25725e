/-
  No cell of these rows narrows 'for every input' (looked for: loops, veiled, ifaces, maps, wideKeys, modest, calm, conditions, laid).
  DERIVED. THE GIVEN ROWS OF THIS SEAT. 7 by the template 'for every input the law returns true; each argument reads behind the call as it read before'; 0 by the template 'total and deterministic' (their statements: YtjlpppnpdgenfaaTotals.lean).
  GIVEN WITH THE SEED: the statements are not yours to turn. If you find one false, say at which input.
  Laid BY PROGRAM, IN A SANDBOX (cutbox-rows.mjs): the forced cells as the released guide's own fill.sh prints them over the translation 0b6221a68ad5dfbb… (all of the seat's roots in one cut). By AI agents, Wed Nov 11 2026. No macro, syntax, notation, axiom, sorry.
-/
import Derived.Test.YtjlpppnpdgenfaaChecked
import GoSem.Claim
import GoSem.ClaimJoined
import GoSem.ClaimMapViews
import Derived.JoinedTies
import Derived.KernelRfl
namespace Go.Proofs.Ytjlpppnpdgenfaa
/- THE CELL 'sum', in the pinned program and in every row, IS THE sha256 OF THE DUMP (.gsa) THAT YtjlpppnpdgenfaaProg.lean LOADS. Nothing in Lean hashes anything: it is a label: what it is worth is what the hold of that sum in a sandbox is worth. -/
noncomputable def Try.pinned : Pinned := { name := "ytjlpppnpdgenfaa", sum := "0b6221a68ad5dfbb0b896df04040d6cc2273a51cbaf2204c4f93607e91ea3029", checked := Try.checked }
namespace Rows
def none {H : Type} : Left H := { results := [], args := [] }

/-- 'mantillalaw16.VaultTells': WHATEVER THE INPUT: true; the input reads as it did. -/
def vaultTellsSpec : ChangeSpec := { name := "vaultTells", fn := fun _ => fun
  | [d1, d2, d3, d4, d5, d6] => { results := [.lit (.bool true)], args := [d1, d2, d3, d4, d5, d6] }
  | _ => none }
def vaultTellsRow : OpenClaim := { program := "ytjlpppnpdgenfaa", sum := "0b6221a68ad5dfbb0b896df04040d6cc2273a51cbaf2204c4f93607e91ea3029", func := "mantilla/mantillalaw16.VaultTells", spec := "vaultTells", apart := false }
def VaultTellsSaid : Prop := vaultTellsRow.holds Try.pinned (OpenSpec.ofChange vaultTellsSpec)

/-- ITS FALSE NEIGHBOUR: 'it returns false'. Refute it at one input. -/
def vaultTellsWrong : ChangeSpec := { name := "vaultTells", fn := fun _ => fun
  | [d1, d2, d3, d4, d5, d6] => { results := [.lit (.bool false)], args := [d1, d2, d3, d4, d5, d6] }
  | _ => none }
def VaultTellsWrongFalsely : Prop := vaultTellsRow.holds Try.pinned (OpenSpec.ofChange vaultTellsWrong)

/-- 'mantillalaw16.VaultRounds': WHATEVER THE INPUT: true; the input reads as it did. -/
def vaultRoundsSpec : ChangeSpec := { name := "vaultRounds", fn := fun _ => fun
  | [d1, d2, d3, d4, d5] => { results := [.lit (.bool true)], args := [d1, d2, d3, d4, d5] }
  | _ => none }
def vaultRoundsRow : OpenClaim := { program := "ytjlpppnpdgenfaa", sum := "0b6221a68ad5dfbb0b896df04040d6cc2273a51cbaf2204c4f93607e91ea3029", func := "mantilla/mantillalaw16.VaultRounds", spec := "vaultRounds", apart := false }
def VaultRoundsSaid : Prop := vaultRoundsRow.holds Try.pinned (OpenSpec.ofChange vaultRoundsSpec)

/-- ITS FALSE NEIGHBOUR: 'it returns false'. Refute it at one input. -/
def vaultRoundsWrong : ChangeSpec := { name := "vaultRounds", fn := fun _ => fun
  | [d1, d2, d3, d4, d5] => { results := [.lit (.bool false)], args := [d1, d2, d3, d4, d5] }
  | _ => none }
def VaultRoundsWrongFalsely : Prop := vaultRoundsRow.holds Try.pinned (OpenSpec.ofChange vaultRoundsWrong)

/-- 'mantillalaw16.VaultTables': WHATEVER THE INPUT: true; the input reads as it did. -/
def vaultTablesSpec : ChangeSpec := { name := "vaultTables", fn := fun _ => fun
  | [d1, d2] => { results := [.lit (.bool true)], args := [d1, d2] }
  | _ => none }
def vaultTablesRow : OpenClaim := { program := "ytjlpppnpdgenfaa", sum := "0b6221a68ad5dfbb0b896df04040d6cc2273a51cbaf2204c4f93607e91ea3029", func := "mantilla/mantillalaw16.VaultTables", spec := "vaultTables", apart := false }
def VaultTablesSaid : Prop := vaultTablesRow.holds Try.pinned (OpenSpec.ofChange vaultTablesSpec)

/-- ITS FALSE NEIGHBOUR: 'it returns false'. Refute it at one input. -/
def vaultTablesWrong : ChangeSpec := { name := "vaultTables", fn := fun _ => fun
  | [d1, d2] => { results := [.lit (.bool false)], args := [d1, d2] }
  | _ => none }
def VaultTablesWrongFalsely : Prop := vaultTablesRow.holds Try.pinned (OpenSpec.ofChange vaultTablesWrong)

/-- 'mantillalaw16.VaultApart': WHATEVER THE INPUT: true; the input reads as it did. -/
def vaultApartSpec : ChangeSpec := { name := "vaultApart", fn := fun _ => fun
  | [d1, d2, d3, d4, d5] => { results := [.lit (.bool true)], args := [d1, d2, d3, d4, d5] }
  | _ => none }
def vaultApartRow : OpenClaim := { program := "ytjlpppnpdgenfaa", sum := "0b6221a68ad5dfbb0b896df04040d6cc2273a51cbaf2204c4f93607e91ea3029", func := "mantilla/mantillalaw16.VaultApart", spec := "vaultApart", apart := false }
def VaultApartSaid : Prop := vaultApartRow.holds Try.pinned (OpenSpec.ofChange vaultApartSpec)

/-- ITS FALSE NEIGHBOUR: 'it returns false'. Refute it at one input. -/
def vaultApartWrong : ChangeSpec := { name := "vaultApart", fn := fun _ => fun
  | [d1, d2, d3, d4, d5] => { results := [.lit (.bool false)], args := [d1, d2, d3, d4, d5] }
  | _ => none }
def VaultApartWrongFalsely : Prop := vaultApartRow.holds Try.pinned (OpenSpec.ofChange vaultApartWrong)

/-- 'mantillalaw16.VaultNonces': WHATEVER THE INPUT: true; the input reads as it did. -/
def vaultNoncesSpec : ChangeSpec := { name := "vaultNonces", fn := fun _ => fun
  | [d1, d2, d3] => { results := [.lit (.bool true)], args := [d1, d2, d3] }
  | _ => none }
def vaultNoncesRow : OpenClaim := { program := "ytjlpppnpdgenfaa", sum := "0b6221a68ad5dfbb0b896df04040d6cc2273a51cbaf2204c4f93607e91ea3029", func := "mantilla/mantillalaw16.VaultNonces", spec := "vaultNonces", apart := false }
def VaultNoncesSaid : Prop := vaultNoncesRow.holds Try.pinned (OpenSpec.ofChange vaultNoncesSpec)

/-- ITS FALSE NEIGHBOUR: 'it returns false'. Refute it at one input. -/
def vaultNoncesWrong : ChangeSpec := { name := "vaultNonces", fn := fun _ => fun
  | [d1, d2, d3] => { results := [.lit (.bool false)], args := [d1, d2, d3] }
  | _ => none }
def VaultNoncesWrongFalsely : Prop := vaultNoncesRow.holds Try.pinned (OpenSpec.ofChange vaultNoncesWrong)

/-- 'mantillalaw16.VaultLongs': WHATEVER THE INPUT: true; the input reads as it did. -/
def vaultLongsSpec : ChangeSpec := { name := "vaultLongs", fn := fun _ => fun
  | [d1, d2, d3, d4, d5, d6, d7] => { results := [.lit (.bool true)], args := [d1, d2, d3, d4, d5, d6, d7] }
  | _ => none }
def vaultLongsRow : OpenClaim := { program := "ytjlpppnpdgenfaa", sum := "0b6221a68ad5dfbb0b896df04040d6cc2273a51cbaf2204c4f93607e91ea3029", func := "mantilla/mantillalaw16.VaultLongs", spec := "vaultLongs", apart := false }
def VaultLongsSaid : Prop := vaultLongsRow.holds Try.pinned (OpenSpec.ofChange vaultLongsSpec)

/-- ITS FALSE NEIGHBOUR: 'it returns false'. Refute it at one input. -/
def vaultLongsWrong : ChangeSpec := { name := "vaultLongs", fn := fun _ => fun
  | [d1, d2, d3, d4, d5, d6, d7] => { results := [.lit (.bool false)], args := [d1, d2, d3, d4, d5, d6, d7] }
  | _ => none }
def VaultLongsWrongFalsely : Prop := vaultLongsRow.holds Try.pinned (OpenSpec.ofChange vaultLongsWrong)

/-- 'mantillalaw16.VaultWindows': WHATEVER THE INPUT: true; the input reads as it did. -/
def vaultWindowsSpec : ChangeSpec := { name := "vaultWindows", fn := fun _ => fun
  | [d1, d2, d3, d4, d5] => { results := [.lit (.bool true)], args := [d1, d2, d3, d4, d5] }
  | _ => none }
def vaultWindowsRow : OpenClaim := { program := "ytjlpppnpdgenfaa", sum := "0b6221a68ad5dfbb0b896df04040d6cc2273a51cbaf2204c4f93607e91ea3029", func := "mantilla/mantillalaw16.VaultWindows", spec := "vaultWindows", apart := false }
def VaultWindowsSaid : Prop := vaultWindowsRow.holds Try.pinned (OpenSpec.ofChange vaultWindowsSpec)

/-- ITS FALSE NEIGHBOUR: 'it returns false'. Refute it at one input. -/
def vaultWindowsWrong : ChangeSpec := { name := "vaultWindows", fn := fun _ => fun
  | [d1, d2, d3, d4, d5] => { results := [.lit (.bool false)], args := [d1, d2, d3, d4, d5] }
  | _ => none }
def VaultWindowsWrongFalsely : Prop := vaultWindowsRow.holds Try.pinned (OpenSpec.ofChange vaultWindowsWrong)

/- THE SECOND FORM. 'bulk': how many values and letters a reading holds, each counted each time it is reached (what is shared counts as often as it is met; a slice's spare places count too). A statement '..UptoSaid' is the law's where the arguments, and the package variables that the reading takes, are together of bulk at most 1048576: NARROWER than '..Said'. Prove '..Said' where nothing that the law and all that it calls make is longer than what came in: it says more and counts as full. Else prove '..UptoSaid'. A law counts once. -/
mutual
def uptoBulk {H : Type} : DataW H → Nat
  | .lit (.string bytes) => bytes.length + 1
  | .lit _ => 1
  | .nil => 1
  | .ptr d => uptoBulk d + 1
  | .slice elems spare => uptoBulkAll elems + uptoBulkAll spare + 1
  | .agg parts => uptoBulkAll parts + 1
  | .iface _ d => uptoBulk d + 1
  | .map entries => uptoBulkEntries entries + 1
  | .held _ => 1
def uptoBulkAll {H : Type} : List (DataW H) → Nat
  | [] => 0
  | d :: r => uptoBulk d + uptoBulkAll r
def uptoBulkEntries {H : Type} : List (Lit × DataW H) → Nat
  | [] => 0
  | x :: r => uptoBulkEntry x + uptoBulkEntries r
def uptoBulkEntry {H : Type} : Lit × DataW H → Nat
  | (.string bytes, d) => bytes.length + uptoBulk d + 1
  | (_, d) => uptoBulk d + 1
 end
def uptoSmall : (H : Type) → List (DataW H) → Bool := fun _ ds => decide (uptoBulkAll ds ≤ 1048576)
def OpenSpec.upto (s : _root_.Go.ChangeSpec) : _root_.Go.OpenSpec := { _root_.Go.OpenSpec.ofChange s with cond := some uptoSmall }

/-- 'mantillalaw16.VaultTells', WHERE WHAT IT READS IS OF BULK AT MOST 1048576: true; the input reads as it did. -/
def vaultTellsUptoRow : OpenClaim := { program := "ytjlpppnpdgenfaa", sum := "0b6221a68ad5dfbb0b896df04040d6cc2273a51cbaf2204c4f93607e91ea3029", func := "mantilla/mantillalaw16.VaultTells", spec := "vaultTells", apart := false, narrowed := true }
def VaultTellsUptoSaid : Prop := vaultTellsUptoRow.holds Try.pinned (OpenSpec.upto vaultTellsSpec)

/-- 'mantillalaw16.VaultRounds', WHERE WHAT IT READS IS OF BULK AT MOST 1048576: true; the input reads as it did. -/
def vaultRoundsUptoRow : OpenClaim := { program := "ytjlpppnpdgenfaa", sum := "0b6221a68ad5dfbb0b896df04040d6cc2273a51cbaf2204c4f93607e91ea3029", func := "mantilla/mantillalaw16.VaultRounds", spec := "vaultRounds", apart := false, narrowed := true }
def VaultRoundsUptoSaid : Prop := vaultRoundsUptoRow.holds Try.pinned (OpenSpec.upto vaultRoundsSpec)

/-- 'mantillalaw16.VaultTables', WHERE WHAT IT READS IS OF BULK AT MOST 1048576: true; the input reads as it did. -/
def vaultTablesUptoRow : OpenClaim := { program := "ytjlpppnpdgenfaa", sum := "0b6221a68ad5dfbb0b896df04040d6cc2273a51cbaf2204c4f93607e91ea3029", func := "mantilla/mantillalaw16.VaultTables", spec := "vaultTables", apart := false, narrowed := true }
def VaultTablesUptoSaid : Prop := vaultTablesUptoRow.holds Try.pinned (OpenSpec.upto vaultTablesSpec)

/-- 'mantillalaw16.VaultApart', WHERE WHAT IT READS IS OF BULK AT MOST 1048576: true; the input reads as it did. -/
def vaultApartUptoRow : OpenClaim := { program := "ytjlpppnpdgenfaa", sum := "0b6221a68ad5dfbb0b896df04040d6cc2273a51cbaf2204c4f93607e91ea3029", func := "mantilla/mantillalaw16.VaultApart", spec := "vaultApart", apart := false, narrowed := true }
def VaultApartUptoSaid : Prop := vaultApartUptoRow.holds Try.pinned (OpenSpec.upto vaultApartSpec)

/-- 'mantillalaw16.VaultNonces', WHERE WHAT IT READS IS OF BULK AT MOST 1048576: true; the input reads as it did. -/
def vaultNoncesUptoRow : OpenClaim := { program := "ytjlpppnpdgenfaa", sum := "0b6221a68ad5dfbb0b896df04040d6cc2273a51cbaf2204c4f93607e91ea3029", func := "mantilla/mantillalaw16.VaultNonces", spec := "vaultNonces", apart := false, narrowed := true }
def VaultNoncesUptoSaid : Prop := vaultNoncesUptoRow.holds Try.pinned (OpenSpec.upto vaultNoncesSpec)

/-- 'mantillalaw16.VaultLongs', WHERE WHAT IT READS IS OF BULK AT MOST 1048576: true; the input reads as it did. -/
def vaultLongsUptoRow : OpenClaim := { program := "ytjlpppnpdgenfaa", sum := "0b6221a68ad5dfbb0b896df04040d6cc2273a51cbaf2204c4f93607e91ea3029", func := "mantilla/mantillalaw16.VaultLongs", spec := "vaultLongs", apart := false, narrowed := true }
def VaultLongsUptoSaid : Prop := vaultLongsUptoRow.holds Try.pinned (OpenSpec.upto vaultLongsSpec)

/-- 'mantillalaw16.VaultWindows', WHERE WHAT IT READS IS OF BULK AT MOST 1048576: true; the input reads as it did. -/
def vaultWindowsUptoRow : OpenClaim := { program := "ytjlpppnpdgenfaa", sum := "0b6221a68ad5dfbb0b896df04040d6cc2273a51cbaf2204c4f93607e91ea3029", func := "mantilla/mantillalaw16.VaultWindows", spec := "vaultWindows", apart := false, narrowed := true }
def VaultWindowsUptoSaid : Prop := vaultWindowsUptoRow.holds Try.pinned (OpenSpec.upto vaultWindowsSpec)

end Rows
end Go.Proofs.Ytjlpppnpdgenfaa
