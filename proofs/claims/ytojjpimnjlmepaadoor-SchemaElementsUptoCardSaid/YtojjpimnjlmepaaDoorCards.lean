/-
  DERIVED. GIVEN WITH THE SEED: THE CARDS: each row of YtojjpimnjlmepaaDoorRows.lean that lists a variable, with what it lists TIED to the program's text (the seventh form; the later family's looks); each row that meets fmt, with fmt's text TOLD by the authors' own Lean function (tested against real Go, not proved from fmt's source: count such statements apart). THE CARD IS WHAT COUNTS. Prove the row's statement (the work); the ties are given (YtojjpimnjlmepaaDoorTie.lean); close each card by the builder's one call (the guide's Derived/Test/ToyasCard.lean, 'card_holds'). Laid BY PROGRAM, IN A SANDBOX (cutbox-door.mjs). By AI agents, Wed Nov 11 2026. No macro, syntax, notation, axiom, sorry.
-/
import Derived.Test.YtojjpimnjlmepaaDoorRows
import GoSem.ClaimSeven
namespace Go.Proofs.YtojjpimnjlmepaaDoor
namespace Rows

/-- THE TIED CARD OF 'beadlelaw16.SchemaElements'. -/
def schemaElementsCard : Claim7 := { stood := { row := schemaElementsRow, standIns := [], harness := (true, "78f2531165db970869865331426bc6f6600616de2602a985ab0db3788d6e68f7"), looks := false }, kinds := [], alts := [], laidByText := true, laidKinds := [.listed, .data], laidTests := true, laidLooks := .later }
def SchemaElementsCardSaid : Prop := Claim7.holds Tryd.pinned (.plain (OpenSpec.ofChange schemaElementsSpec)) schemaElementsCard

/-- THE TIED CARD OF 'beadlelaw16.SchemaAttributes'. -/
def schemaAttributesCard : Claim7 := { stood := { row := schemaAttributesRow, standIns := [], harness := (true, "78f2531165db970869865331426bc6f6600616de2602a985ab0db3788d6e68f7"), looks := false }, kinds := [], alts := [], laidByText := true, laidKinds := [.listed, .data], laidTests := true, laidLooks := .later }
def SchemaAttributesCardSaid : Prop := Claim7.holds Tryd.pinned (.plain (OpenSpec.ofChange schemaAttributesSpec)) schemaAttributesCard

/-- THE SECOND FORM's CARD OF 'beadlelaw16.SchemaElements'. -/
def schemaElementsUptoCard : Claim7 := { stood := { row := schemaElementsUptoRow, standIns := [], harness := (true, "78f2531165db970869865331426bc6f6600616de2602a985ab0db3788d6e68f7"), looks := false }, kinds := [], alts := [], laidByText := true, laidKinds := [.listed, .data], laidTests := true, laidLooks := .later }
def SchemaElementsUptoCardSaid : Prop := Claim7.holds Tryd.pinned (.plain (OpenSpec.upto schemaElementsSpec)) schemaElementsUptoCard

/-- THE SECOND FORM's CARD OF 'beadlelaw16.SchemaAttributes'. -/
def schemaAttributesUptoCard : Claim7 := { stood := { row := schemaAttributesUptoRow, standIns := [], harness := (true, "78f2531165db970869865331426bc6f6600616de2602a985ab0db3788d6e68f7"), looks := false }, kinds := [], alts := [], laidByText := true, laidKinds := [.listed, .data], laidTests := true, laidLooks := .later }
def SchemaAttributesUptoCardSaid : Prop := Claim7.holds Tryd.pinned (.plain (OpenSpec.upto schemaAttributesSpec)) schemaAttributesUptoCard
end Rows
end Go.Proofs.YtojjpimnjlmepaaDoor
