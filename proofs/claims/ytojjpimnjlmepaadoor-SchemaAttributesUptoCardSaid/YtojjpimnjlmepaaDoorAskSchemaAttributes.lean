/- Written by a program of this session out of the translation: plain functions of the Go functions here and the contracts that tie them to the code; no condition beside those in each statement. -/
import Derived.Test.YtojjpimnjlmepaaDoorPMx6
import Derived.Test.YtojjpimnjlmepaaDoorPMWf
namespace Go.Proofs.YtojjpimnjlmepaaDoor.PM
open Go.RowKit Go.Proofs.YtojjpimnjlmepaaDoorW.PrintWords Go.Proofs.YtojjpimnjlmepaaDoorW.PrintLast
/-- What is left of SchemaAttributes, in plain words. -/
def beadlelaw16_SchemaAttributes.Ask : Prop := ∀ (a0 : ByteArray) (a1 : ByteArray), (a0.size ≤ maxLen) → (a1.size ≤ maxLen) → ((a0.size + 1) + (a1.size + 1) ≤ 1048576) → ∃ k, beadlelaw16_SchemaAttributes.f k a0 a1 = some true
end Go.Proofs.YtojjpimnjlmepaaDoor.PM
