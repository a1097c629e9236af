/-
  DERIVED. GIVEN WITH THE SEED: THE CARDS: each row of YtnfjohpecedpnaaGreatDoorRows.lean that lists a variable, with what it lists TIED to the program's text (the seventh form; the later family's looks); each row that meets fmt, with fmt's text TOLD by the authors' own Lean function (tested against real Go, not proved from fmt's source: count such statements apart). THE CARD IS WHAT COUNTS. Prove the row's statement (the work); the ties are given (YtnfjohpecedpnaaGreatDoorTie.lean); close each card by the builder's one call (the guide's Derived/Test/ToyasCard.lean, 'card_holds'). Laid BY PROGRAM, IN A SANDBOX (cutbox-door.mjs). By AI agents, Wed Nov 11 2026. No macro, syntax, notation, axiom, sorry.
-/
import Derived.Test.YtnfjohpecedpnaaGreatDoorRows
import GoSem.ClaimSeven
namespace Go.Proofs.YtnfjohpecedpnaaGreatDoor
namespace Rows

/-- THE TIED CARD OF 'beadlelaw18.MicroValues'. -/
def microValuesCard : Claim7 := { stood := { row := microValuesRow, standIns := [], harness := (true, "9b54c4a7d155cae0ea19ad9edf863e780931c0d84c2ebc54fffcd0d961bf471f"), looks := true }, kinds := [], alts := [], laidByText := true, laidKinds := [.data, .data, .data, .data, .sentinel, .sentinel, .pinned], laidTests := true, laidLooks := .later }
def MicroValuesCardSaid : Prop := Claim7.holds Tryz.pinned (.plain (OpenSpec.ofChange microValuesSpec)) microValuesCard

/-- THE TIED CARD OF 'beadlelaw18.MicroDates'. -/
def microDatesCard : Claim7 := { stood := { row := microDatesRow, standIns := [], harness := (true, "9b54c4a7d155cae0ea19ad9edf863e780931c0d84c2ebc54fffcd0d961bf471f"), looks := true }, kinds := [], alts := [], laidByText := true, laidKinds := [.data, .data, .data, .data, .sentinel, .sentinel, .pinned], laidTests := true, laidLooks := .later }
def MicroDatesCardSaid : Prop := Claim7.holds Tryz.pinned (.plain (OpenSpec.ofChange microDatesSpec)) microDatesCard

/-- THE TIED CARD OF 'beadlelaw18.MicroKnown'. -/
def microKnownCard : Claim7 := { stood := { row := microKnownRow, standIns := [], harness := (true, "9b54c4a7d155cae0ea19ad9edf863e780931c0d84c2ebc54fffcd0d961bf471f"), looks := true }, kinds := [], alts := [], laidByText := true, laidKinds := [.data, .data, .data, .data, .sentinel, .sentinel, .listed, .data, .pinned], laidTests := true, laidLooks := .later }
def MicroKnownCardSaid : Prop := Claim7.holds Tryz.pinned (.plain (OpenSpec.ofChange microKnownSpec)) microKnownCard

/-- THE SECOND FORM's CARD OF 'beadlelaw18.MicroValues'. -/
def microValuesUptoCard : Claim7 := { stood := { row := microValuesUptoRow, standIns := [], harness := (true, "9b54c4a7d155cae0ea19ad9edf863e780931c0d84c2ebc54fffcd0d961bf471f"), looks := true }, kinds := [], alts := [], laidByText := true, laidKinds := [.data, .data, .data, .data, .sentinel, .sentinel, .pinned], laidTests := true, laidLooks := .later }
def MicroValuesUptoCardSaid : Prop := Claim7.holds Tryz.pinned (.plain (OpenSpec.upto microValuesSpec)) microValuesUptoCard

/-- THE SECOND FORM's CARD OF 'beadlelaw18.MicroDates'. -/
def microDatesUptoCard : Claim7 := { stood := { row := microDatesUptoRow, standIns := [], harness := (true, "9b54c4a7d155cae0ea19ad9edf863e780931c0d84c2ebc54fffcd0d961bf471f"), looks := true }, kinds := [], alts := [], laidByText := true, laidKinds := [.data, .data, .data, .data, .sentinel, .sentinel, .pinned], laidTests := true, laidLooks := .later }
def MicroDatesUptoCardSaid : Prop := Claim7.holds Tryz.pinned (.plain (OpenSpec.upto microDatesSpec)) microDatesUptoCard

/-- THE SECOND FORM's CARD OF 'beadlelaw18.MicroKnown'. -/
def microKnownUptoCard : Claim7 := { stood := { row := microKnownUptoRow, standIns := [], harness := (true, "9b54c4a7d155cae0ea19ad9edf863e780931c0d84c2ebc54fffcd0d961bf471f"), looks := true }, kinds := [], alts := [], laidByText := true, laidKinds := [.data, .data, .data, .data, .sentinel, .sentinel, .listed, .data, .pinned], laidTests := true, laidLooks := .later }
def MicroKnownUptoCardSaid : Prop := Claim7.holds Tryz.pinned (.plain (OpenSpec.upto microKnownSpec)) microKnownUptoCard
end Rows
end Go.Proofs.YtnfjohpecedpnaaGreatDoor
