/-
  DERIVED. GIVEN WITH THE SEED: THE CARDS: each row of YtomdidopflebjaaGreatDoorRows.lean that lists a variable, with what it lists TIED to the program's text (the seventh form; the later family's looks); each row that meets fmt, with fmt's text TOLD by the authors' own Lean function (tested against real Go, not proved from fmt's source: count such statements apart). THE CARD IS WHAT COUNTS. Prove the row's statement (the work); the ties are given (YtomdidopflebjaaGreatDoorTie.lean); close each card by the builder's one call (the guide's Derived/Test/ToyasCard.lean, 'card_holds'). Laid BY PROGRAM, IN A SANDBOX (cutbox-door.mjs). By AI agents, Wed Nov 11 2026. No macro, syntax, notation, axiom, sorry.
-/
import Derived.Test.YtomdidopflebjaaGreatDoorRows
import GoSem.ClaimSeven
namespace Go.Proofs.YtomdidopflebjaaGreatDoor
namespace Rows

/-- THE TIED CARD OF 'beadlelaw21.OutlineShows'. -/
def outlineShowsCard : Claim7 := { stood := { row := outlineShowsRow, standIns := [], harness := (true, "90f4c3c8feb516dc68fede207e560a1165828463d55ae80723fae5663b44683c"), looks := false }, kinds := [], alts := [], laidByText := true, laidKinds := [.data, .data, .data], laidTests := true, laidLooks := .later }
def OutlineShowsCardSaid : Prop := Claim7.holds Tryz.pinned (.plain (OpenSpec.ofChange outlineShowsSpec)) outlineShowsCard

/-- THE TIED CARD OF 'beadlelaw21.OutlineDepths'. -/
def outlineDepthsCard : Claim7 := { stood := { row := outlineDepthsRow, standIns := [], harness := (true, "90f4c3c8feb516dc68fede207e560a1165828463d55ae80723fae5663b44683c"), looks := false }, kinds := [], alts := [], laidByText := true, laidKinds := [.data, .data, .data], laidTests := true, laidLooks := .later }
def OutlineDepthsCardSaid : Prop := Claim7.holds Tryz.pinned (.plain (OpenSpec.ofChange outlineDepthsSpec)) outlineDepthsCard

/-- THE TIED CARD OF 'beadlelaw21.OutlineGrows'. -/
def outlineGrowsCard : Claim7 := { stood := { row := outlineGrowsRow, standIns := [], harness := (true, "90f4c3c8feb516dc68fede207e560a1165828463d55ae80723fae5663b44683c"), looks := false }, kinds := [], alts := [], laidByText := true, laidKinds := [.data, .data, .data], laidTests := true, laidLooks := .later }
def OutlineGrowsCardSaid : Prop := Claim7.holds Tryz.pinned (.plain (OpenSpec.ofChange outlineGrowsSpec)) outlineGrowsCard

/-- THE TIED CARD OF 'beadlelaw21.OutlineSteps'. -/
def outlineStepsCard : Claim7 := { stood := { row := outlineStepsRow, standIns := [], harness := (true, "90f4c3c8feb516dc68fede207e560a1165828463d55ae80723fae5663b44683c"), looks := false }, kinds := [], alts := [], laidByText := true, laidKinds := [.data, .data, .data], laidTests := true, laidLooks := .later }
def OutlineStepsCardSaid : Prop := Claim7.holds Tryz.pinned (.plain (OpenSpec.ofChange outlineStepsSpec)) outlineStepsCard

/-- THE SECOND FORM's CARD OF 'beadlelaw21.OutlineShows'. -/
def outlineShowsUptoCard : Claim7 := { stood := { row := outlineShowsUptoRow, standIns := [], harness := (true, "90f4c3c8feb516dc68fede207e560a1165828463d55ae80723fae5663b44683c"), looks := false }, kinds := [], alts := [], laidByText := true, laidKinds := [.data, .data, .data], laidTests := true, laidLooks := .later }
def OutlineShowsUptoCardSaid : Prop := Claim7.holds Tryz.pinned (.plain (OpenSpec.upto outlineShowsSpec)) outlineShowsUptoCard

/-- THE SECOND FORM's CARD OF 'beadlelaw21.OutlineDepths'. -/
def outlineDepthsUptoCard : Claim7 := { stood := { row := outlineDepthsUptoRow, standIns := [], harness := (true, "90f4c3c8feb516dc68fede207e560a1165828463d55ae80723fae5663b44683c"), looks := false }, kinds := [], alts := [], laidByText := true, laidKinds := [.data, .data, .data], laidTests := true, laidLooks := .later }
def OutlineDepthsUptoCardSaid : Prop := Claim7.holds Tryz.pinned (.plain (OpenSpec.upto outlineDepthsSpec)) outlineDepthsUptoCard

/-- THE SECOND FORM's CARD OF 'beadlelaw21.OutlineGrows'. -/
def outlineGrowsUptoCard : Claim7 := { stood := { row := outlineGrowsUptoRow, standIns := [], harness := (true, "90f4c3c8feb516dc68fede207e560a1165828463d55ae80723fae5663b44683c"), looks := false }, kinds := [], alts := [], laidByText := true, laidKinds := [.data, .data, .data], laidTests := true, laidLooks := .later }
def OutlineGrowsUptoCardSaid : Prop := Claim7.holds Tryz.pinned (.plain (OpenSpec.upto outlineGrowsSpec)) outlineGrowsUptoCard

/-- THE SECOND FORM's CARD OF 'beadlelaw21.OutlineSteps'. -/
def outlineStepsUptoCard : Claim7 := { stood := { row := outlineStepsUptoRow, standIns := [], harness := (true, "90f4c3c8feb516dc68fede207e560a1165828463d55ae80723fae5663b44683c"), looks := false }, kinds := [], alts := [], laidByText := true, laidKinds := [.data, .data, .data], laidTests := true, laidLooks := .later }
def OutlineStepsUptoCardSaid : Prop := Claim7.holds Tryz.pinned (.plain (OpenSpec.upto outlineStepsSpec)) outlineStepsUptoCard
end Rows
end Go.Proofs.YtomdidopflebjaaGreatDoor
