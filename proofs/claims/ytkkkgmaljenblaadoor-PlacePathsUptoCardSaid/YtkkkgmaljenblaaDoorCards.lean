/-
  DERIVED. GIVEN WITH THE SEED: THE CARDS: each row of YtkkkgmaljenblaaDoorRows.lean that lists a variable, with what it lists TIED to the program's text (the seventh form; the later family's looks); each row that meets fmt, with fmt's text TOLD by the authors' own Lean function (tested against real Go, not proved from fmt's source: count such statements apart). THE CARD IS WHAT COUNTS. Prove the row's statement (the work); the ties are given (YtkkkgmaljenblaaDoorTie.lean); close each card by the builder's one call (the guide's Derived/Test/ToyasCard.lean, 'card_holds'). Laid BY PROGRAM, IN A SANDBOX (cutbox-door.mjs). By AI agents, Wed Nov 11 2026. No macro, syntax, notation, axiom, sorry.
-/
import Derived.Test.YtkkkgmaljenblaaDoorRows
import GoSem.ClaimSeven
namespace Go.Proofs.YtkkkgmaljenblaaDoor
namespace Rows

/-- THE TIED CARD OF 'beadlelaw03.PlaceSteps'. -/
def placeStepsCard : Claim7 := { stood := { row := placeStepsRow, standIns := [], harness := (true, "8f47b30bdfb8da2cfcaad250f7f263683d95c0dbfa6a85d78d31ba6c09f1722b"), looks := true }, kinds := [], alts := [], laidByText := true, laidKinds := [.data, .data, .data, .data, .sentinel, .sentinel, .pinned], laidTests := true, laidLooks := .later }
def PlaceStepsCardSaid : Prop := Claim7.holds Tryd.pinned (.plain (OpenSpec.ofChange placeStepsSpec)) placeStepsCard

/-- THE TIED CARD OF 'beadlelaw03.PlacePaths'. -/
def placePathsCard : Claim7 := { stood := { row := placePathsRow, standIns := [], harness := (true, "8f47b30bdfb8da2cfcaad250f7f263683d95c0dbfa6a85d78d31ba6c09f1722b"), looks := true }, kinds := [], alts := [], laidByText := true, laidKinds := [.data, .data, .data, .data, .sentinel, .sentinel, .pinned], laidTests := true, laidLooks := .later }
def PlacePathsCardSaid : Prop := Claim7.holds Tryd.pinned (.plain (OpenSpec.ofChange placePathsSpec)) placePathsCard

/-- THE SECOND FORM's CARD OF 'beadlelaw03.PlaceSteps'. -/
def placeStepsUptoCard : Claim7 := { stood := { row := placeStepsUptoRow, standIns := [], harness := (true, "8f47b30bdfb8da2cfcaad250f7f263683d95c0dbfa6a85d78d31ba6c09f1722b"), looks := true }, kinds := [], alts := [], laidByText := true, laidKinds := [.data, .data, .data, .data, .sentinel, .sentinel, .pinned], laidTests := true, laidLooks := .later }
def PlaceStepsUptoCardSaid : Prop := Claim7.holds Tryd.pinned (.plain (OpenSpec.upto placeStepsSpec)) placeStepsUptoCard

/-- THE SECOND FORM's CARD OF 'beadlelaw03.PlacePaths'. -/
def placePathsUptoCard : Claim7 := { stood := { row := placePathsUptoRow, standIns := [], harness := (true, "8f47b30bdfb8da2cfcaad250f7f263683d95c0dbfa6a85d78d31ba6c09f1722b"), looks := true }, kinds := [], alts := [], laidByText := true, laidKinds := [.data, .data, .data, .data, .sentinel, .sentinel, .pinned], laidTests := true, laidLooks := .later }
def PlacePathsUptoCardSaid : Prop := Claim7.holds Tryd.pinned (.plain (OpenSpec.upto placePathsSpec)) placePathsUptoCard
end Rows
end Go.Proofs.YtkkkgmaljenblaaDoor
