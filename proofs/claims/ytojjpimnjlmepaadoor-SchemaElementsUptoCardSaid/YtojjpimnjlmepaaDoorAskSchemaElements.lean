/- Written by a program of this session out of the translation: plain functions of the Go functions here and the contracts that tie them to the code; no condition beside those in each statement. -/
import Derived.Test.YtojjpimnjlmepaaDoorPMx6
import Derived.Test.YtojjpimnjlmepaaDoorPMWf
namespace Go.Proofs.YtojjpimnjlmepaaDoor.PM
open Go.RowKit Go.Proofs.YtojjpimnjlmepaaDoorW.PrintWords Go.Proofs.YtojjpimnjlmepaaDoorW.PrintLast
/-- What is left of SchemaElements, in plain words. -/
def beadlelaw16_SchemaElements.Ask : Prop := ∀ (a0 : ByteArray), (a0.size ≤ maxLen) → ((a0.size + 1) ≤ 1048576) → ∃ k, beadlelaw16_SchemaElements.f k a0 = some true
end Go.Proofs.YtojjpimnjlmepaaDoor.PM
