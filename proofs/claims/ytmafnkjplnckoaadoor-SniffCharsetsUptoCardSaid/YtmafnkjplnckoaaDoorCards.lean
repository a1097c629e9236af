/-
  DERIVED. GIVEN WITH THE SEED: THE CARDS: each row of YtmafnkjplnckoaaDoorRows.lean that lists a variable, with what it lists TIED to the program's text (the seventh form; the later family's looks); each row that meets fmt, with fmt's text TOLD by the authors' own Lean function (tested against real Go, not proved from fmt's source: count such statements apart). THE CARD IS WHAT COUNTS. Prove the row's statement (the work); the ties are given (YtmafnkjplnckoaaDoorTie.lean); close each card by the builder's one call (the guide's Derived/Test/ToyasCard.lean, 'card_holds'). Laid BY PROGRAM, IN A SANDBOX (cutbox-door.mjs). By AI agents, Wed Nov 11 2026. No macro, syntax, notation, axiom, sorry.
-/
import Derived.Test.YtmafnkjplnckoaaDoorRows
import GoSem.ClaimSeven
namespace Go.Proofs.YtmafnkjplnckoaaDoor
namespace Rows

/-- THE TIED CARD OF 'beadlelaw01.SniffLabels'. -/
def sniffLabelsCard : Claim7 := { stood := { row := sniffLabelsRow, standIns := [], harness := (true, "180532bad205c9da38490ce24896e01a8274bf56ba51fc23fb12f2336c275028"), looks := false }, kinds := [], alts := [], laidByText := true, laidKinds := [.data, .pinned], laidTests := true, laidLooks := .later }
def SniffLabelsCardSaid : Prop := Claim7.holds Tryd.pinned (.plain (OpenSpec.ofChange sniffLabelsSpec)) sniffLabelsCard

/-- THE TIED CARD OF 'beadlelaw01.SniffCharsets'. -/
def sniffCharsetsCard : Claim7 := { stood := { row := sniffCharsetsRow, standIns := [], harness := (true, "180532bad205c9da38490ce24896e01a8274bf56ba51fc23fb12f2336c275028"), looks := false }, kinds := [], alts := [], laidByText := true, laidKinds := [.data, .pinned], laidTests := true, laidLooks := .later }
def SniffCharsetsCardSaid : Prop := Claim7.holds Tryd.pinned (.plain (OpenSpec.ofChange sniffCharsetsSpec)) sniffCharsetsCard

/-- THE SECOND FORM's CARD OF 'beadlelaw01.SniffLabels'. -/
def sniffLabelsUptoCard : Claim7 := { stood := { row := sniffLabelsUptoRow, standIns := [], harness := (true, "180532bad205c9da38490ce24896e01a8274bf56ba51fc23fb12f2336c275028"), looks := false }, kinds := [], alts := [], laidByText := true, laidKinds := [.data, .pinned], laidTests := true, laidLooks := .later }
def SniffLabelsUptoCardSaid : Prop := Claim7.holds Tryd.pinned (.plain (OpenSpec.upto sniffLabelsSpec)) sniffLabelsUptoCard

/-- THE SECOND FORM's CARD OF 'beadlelaw01.SniffCharsets'. -/
def sniffCharsetsUptoCard : Claim7 := { stood := { row := sniffCharsetsUptoRow, standIns := [], harness := (true, "180532bad205c9da38490ce24896e01a8274bf56ba51fc23fb12f2336c275028"), looks := false }, kinds := [], alts := [], laidByText := true, laidKinds := [.data, .pinned], laidTests := true, laidLooks := .later }
def SniffCharsetsUptoCardSaid : Prop := Claim7.holds Tryd.pinned (.plain (OpenSpec.upto sniffCharsetsSpec)) sniffCharsetsUptoCard
end Rows
end Go.Proofs.YtmafnkjplnckoaaDoor
