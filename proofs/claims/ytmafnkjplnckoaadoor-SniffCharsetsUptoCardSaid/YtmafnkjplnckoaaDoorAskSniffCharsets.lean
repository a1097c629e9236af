/- Written by a program of this session out of the translation: plain functions of the Go functions here and the contracts that tie them to the code; no condition beside those in each statement. -/
import Derived.Test.YtmafnkjplnckoaaDoorPLx6
import Derived.Test.YtmafnkjplnckoaaDoorPLWf
namespace Go.Proofs.YtmafnkjplnckoaaDoor.PL
open Go.RowKit Go.Proofs.YtmafnkjplnckoaaDoorW.PrintWords Go.Proofs.YtmafnkjplnckoaaDoorW.PrintLast
/-- What is left of SniffCharsets, in plain words. -/
def beadlelaw01_SniffCharsets.Ask : Prop := ∀ (a0 : ByteArray), (a0.size ≤ maxLen) → ((a0.size + 1) ≤ 1048576) → ∃ k, beadlelaw01_SniffCharsets.f k a0 = some true
end Go.Proofs.YtmafnkjplnckoaaDoor.PL
