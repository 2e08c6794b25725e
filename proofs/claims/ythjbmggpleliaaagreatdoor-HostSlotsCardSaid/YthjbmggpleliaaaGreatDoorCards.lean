/-
  DERIVED. GIVEN WITH THE SEED: THE CARDS: each row of YthjbmggpleliaaaGreatDoorRows.lean that lists a variable, with what it lists TIED to the program's text (the seventh form; the later family's looks); each row that meets fmt, with fmt's text TOLD by the authors' own Lean function (tested against real Go, not proved from fmt's source: count such statements apart). THE CARD IS WHAT COUNTS. Prove the row's statement (the work); the ties are given (YthjbmggpleliaaaGreatDoorTie.lean); close each card by the builder's one call (the guide's Derived/Test/ToyasCard.lean, 'card_holds'). Laid BY PROGRAM, IN A SANDBOX (cutbox-door.mjs). By AI agents, Wed Nov 11 2026. No macro, syntax, notation, axiom, sorry.
-/
import Derived.Test.YthjbmggpleliaaaGreatDoorRows
import GoSem.ClaimSeven
namespace Go.Proofs.YthjbmggpleliaaaGreatDoor
namespace Rows

/-- THE TIED CARD OF 'mantillalaw25.HostSlots'. -/
def hostSlotsCard : Claim7 := { stood := { row := hostSlotsRow, standIns := [], harness := (true, "b0fb89c43545dd96d81956a480118fafeaf0f748b4712710a20e77784632b688"), looks := false }, kinds := [], alts := [], laidByText := true, laidKinds := [.data, .data, .widerDeep], laidTests := true, laidLooks := .later }
def HostSlotsCardSaid : Prop := Claim7.holds Tryz.pinned (.plain (OpenSpec.ofChange hostSlotsSpec)) hostSlotsCard

/-- THE TIED CARD OF 'mantillalaw25.HostMay'. -/
def hostMayCard : Claim7 := { stood := { row := hostMayRow, standIns := [], harness := (true, "b0fb89c43545dd96d81956a480118fafeaf0f748b4712710a20e77784632b688"), looks := false }, kinds := [], alts := [], laidByText := true, laidKinds := [.data, .data, .widerDeep], laidTests := true, laidLooks := .later }
def HostMayCardSaid : Prop := Claim7.holds Tryz.pinned (.plain (OpenSpec.ofChange hostMaySpec)) hostMayCard

/-- THE SECOND FORM's CARD OF 'mantillalaw25.HostSlots'. -/
def hostSlotsUptoCard : Claim7 := { stood := { row := hostSlotsUptoRow, standIns := [], harness := (true, "b0fb89c43545dd96d81956a480118fafeaf0f748b4712710a20e77784632b688"), looks := false }, kinds := [], alts := [], laidByText := true, laidKinds := [.data, .data, .widerDeep], laidTests := true, laidLooks := .later }
def HostSlotsUptoCardSaid : Prop := Claim7.holds Tryz.pinned (.plain (OpenSpec.upto hostSlotsSpec)) hostSlotsUptoCard

/-- THE SECOND FORM's CARD OF 'mantillalaw25.HostMay'. -/
def hostMayUptoCard : Claim7 := { stood := { row := hostMayUptoRow, standIns := [], harness := (true, "b0fb89c43545dd96d81956a480118fafeaf0f748b4712710a20e77784632b688"), looks := false }, kinds := [], alts := [], laidByText := true, laidKinds := [.data, .data, .widerDeep], laidTests := true, laidLooks := .later }
def HostMayUptoCardSaid : Prop := Claim7.holds Tryz.pinned (.plain (OpenSpec.upto hostMaySpec)) hostMayUptoCard
end Rows
end Go.Proofs.YthjbmggpleliaaaGreatDoor
