/- Written by a program of this session out of the translation: plain functions of the Go functions here and the contracts that tie them to the code; no condition beside those in each statement. -/
import Derived.Test.YtkkkgmaljenblaaDoorPSx2
import Derived.Test.YtkkkgmaljenblaaDoorPSWf
namespace Go.Proofs.YtkkkgmaljenblaaDoor.PS
open Go.RowKit Go.Proofs.YtkkkgmaljenblaaDoorW.PrintWords Go.Proofs.YtkkkgmaljenblaaDoorW.PrintLast
/-- What is left of PlaceSteps, in plain words. -/
def beadlelaw03_PlaceSteps.Ask : Prop := ∀ (a0 : ByteArray), (a0.size ≤ maxLen) → ((a0.size + 1) ≤ 1048576) → ∃ k, beadlelaw03_PlaceSteps.f k a0 = some true
end Go.Proofs.YtkkkgmaljenblaaDoor.PS
