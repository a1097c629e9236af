/- Written by a program of this session out of the translation: plain functions of the Go functions here and the contracts that tie them to the code; no condition beside those in each statement. -/
import Derived.Test.YtkkkgmaljenblaaDoorPSx3
import Derived.Test.YtkkkgmaljenblaaDoorPSWf
namespace Go.Proofs.YtkkkgmaljenblaaDoor.PS
open Go.RowKit Go.Proofs.YtkkkgmaljenblaaDoorW.PrintWords Go.Proofs.YtkkkgmaljenblaaDoorW.PrintLast
/-- What is left of PlacePaths, in plain words. -/
def beadlelaw03_PlacePaths.Ask : Prop := ∀ (l0 : List Int), ((l0.length ≤ maxLen ∧ ∀ el0 ∈ l0, (Lit.int .i64 el0).wf = true)) → ((Opens.sumB (fun _ => 1) l0 + 1) ≤ 1048576) → ∃ k, beadlelaw03_PlacePaths.f k l0 = some true
end Go.Proofs.YtkkkgmaljenblaaDoor.PS
