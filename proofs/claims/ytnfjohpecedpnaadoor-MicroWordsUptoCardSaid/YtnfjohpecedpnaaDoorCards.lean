/-
  DERIVED. GIVEN WITH THE SEED: THE CARDS: each row of YtnfjohpecedpnaaDoorRows.lean that lists a variable, with what it lists TIED to the program's text (the seventh form; the later family's looks); each row that meets fmt, with fmt's text TOLD by the authors' own Lean function (tested against real Go, not proved from fmt's source: count such statements apart). THE CARD IS WHAT COUNTS. Prove the row's statement (the work); the ties are given (YtnfjohpecedpnaaDoorTie.lean); close each card by the builder's one call (the guide's Derived/Test/ToyasCard.lean, 'card_holds'). Laid BY PROGRAM, IN A SANDBOX (cutbox-door.mjs). By AI agents, Wed Nov 11 2026. No macro, syntax, notation, axiom, sorry.
-/
import Derived.Test.YtnfjohpecedpnaaDoorRows
import GoSem.ClaimSeven
namespace Go.Proofs.YtnfjohpecedpnaaDoor
namespace Rows

/-- THE TIED CARD OF 'beadlelaw18.MicroNumbers'. -/
def microNumbersCard : Claim7 := { stood := { row := microNumbersRow, standIns := [], harness := (true, "3ef9ed80c458a604588263cd7cffce120e78e6999c447364afb3df08f0009341"), looks := true }, kinds := [], alts := [], laidByText := true, laidKinds := [.data, .data, .data, .data, .sentinel, .sentinel, .pinned], laidTests := true, laidLooks := .later }
def MicroNumbersCardSaid : Prop := Claim7.holds Tryd.pinned (.plain (OpenSpec.ofChange microNumbersSpec)) microNumbersCard

/-- THE TIED CARD OF 'beadlelaw18.MicroOrder'. -/
def microOrderCard : Claim7 := { stood := { row := microOrderRow, standIns := [], harness := (true, "3ef9ed80c458a604588263cd7cffce120e78e6999c447364afb3df08f0009341"), looks := true }, kinds := [], alts := [], laidByText := true, laidKinds := [.data, .data, .data, .data, .sentinel, .sentinel, .pinned], laidTests := true, laidLooks := .later }
def MicroOrderCardSaid : Prop := Claim7.holds Tryd.pinned (.plain (OpenSpec.ofChange microOrderSpec)) microOrderCard

/-- THE TIED CARD OF 'beadlelaw18.MicroDays'. -/
def microDaysCard : Claim7 := { stood := { row := microDaysRow, standIns := [], harness := (true, "3ef9ed80c458a604588263cd7cffce120e78e6999c447364afb3df08f0009341"), looks := true }, kinds := [], alts := [], laidByText := true, laidKinds := [.data, .data, .data, .data, .sentinel, .sentinel, .pinned], laidTests := true, laidLooks := .later }
def MicroDaysCardSaid : Prop := Claim7.holds Tryd.pinned (.plain (OpenSpec.ofChange microDaysSpec)) microDaysCard

/-- THE TIED CARD OF 'beadlelaw18.MicroWords'. -/
def microWordsCard : Claim7 := { stood := { row := microWordsRow, standIns := [], harness := (true, "3ef9ed80c458a604588263cd7cffce120e78e6999c447364afb3df08f0009341"), looks := true }, kinds := [], alts := [], laidByText := true, laidKinds := [.data, .data, .data, .data, .sentinel, .sentinel, .pinned], laidTests := true, laidLooks := .later }
def MicroWordsCardSaid : Prop := Claim7.holds Tryd.pinned (.plain (OpenSpec.ofChange microWordsSpec)) microWordsCard

/-- THE SECOND FORM's CARD OF 'beadlelaw18.MicroNumbers'. -/
def microNumbersUptoCard : Claim7 := { stood := { row := microNumbersUptoRow, standIns := [], harness := (true, "3ef9ed80c458a604588263cd7cffce120e78e6999c447364afb3df08f0009341"), looks := true }, kinds := [], alts := [], laidByText := true, laidKinds := [.data, .data, .data, .data, .sentinel, .sentinel, .pinned], laidTests := true, laidLooks := .later }
def MicroNumbersUptoCardSaid : Prop := Claim7.holds Tryd.pinned (.plain (OpenSpec.upto microNumbersSpec)) microNumbersUptoCard

/-- THE SECOND FORM's CARD OF 'beadlelaw18.MicroOrder'. -/
def microOrderUptoCard : Claim7 := { stood := { row := microOrderUptoRow, standIns := [], harness := (true, "3ef9ed80c458a604588263cd7cffce120e78e6999c447364afb3df08f0009341"), looks := true }, kinds := [], alts := [], laidByText := true, laidKinds := [.data, .data, .data, .data, .sentinel, .sentinel, .pinned], laidTests := true, laidLooks := .later }
def MicroOrderUptoCardSaid : Prop := Claim7.holds Tryd.pinned (.plain (OpenSpec.upto microOrderSpec)) microOrderUptoCard

/-- THE SECOND FORM's CARD OF 'beadlelaw18.MicroDays'. -/
def microDaysUptoCard : Claim7 := { stood := { row := microDaysUptoRow, standIns := [], harness := (true, "3ef9ed80c458a604588263cd7cffce120e78e6999c447364afb3df08f0009341"), looks := true }, kinds := [], alts := [], laidByText := true, laidKinds := [.data, .data, .data, .data, .sentinel, .sentinel, .pinned], laidTests := true, laidLooks := .later }
def MicroDaysUptoCardSaid : Prop := Claim7.holds Tryd.pinned (.plain (OpenSpec.upto microDaysSpec)) microDaysUptoCard

/-- THE SECOND FORM's CARD OF 'beadlelaw18.MicroWords'. -/
def microWordsUptoCard : Claim7 := { stood := { row := microWordsUptoRow, standIns := [], harness := (true, "3ef9ed80c458a604588263cd7cffce120e78e6999c447364afb3df08f0009341"), looks := true }, kinds := [], alts := [], laidByText := true, laidKinds := [.data, .data, .data, .data, .sentinel, .sentinel, .pinned], laidTests := true, laidLooks := .later }
def MicroWordsUptoCardSaid : Prop := Claim7.holds Tryd.pinned (.plain (OpenSpec.upto microWordsSpec)) microWordsUptoCard
end Rows
end Go.Proofs.YtnfjohpecedpnaaDoor
