/- Written by a program of this session out of the translation: plain functions of the Go functions here and the contracts that tie them to the code; no condition beside those in each statement. -/
import Derived.Test.YtnfjohpecedpnaaDoorPMx6
import Derived.Test.YtnfjohpecedpnaaDoorPMWf
namespace Go.Proofs.YtnfjohpecedpnaaDoor.PM
open Go.RowKit Go.Proofs.YtnfjohpecedpnaaDoorW.PrintWords Go.Proofs.YtnfjohpecedpnaaDoorW.PrintLast
/-- What is left of MicroDays, in plain words. -/
def beadlelaw18_MicroDays.Ask : Prop := ∀ (a0 : Int), ((Lit.int .i64 a0).wf = true) → (1 ≤ 1048576) → ∃ k, beadlelaw18_MicroDays.f k a0 = some true
end Go.Proofs.YtnfjohpecedpnaaDoor.PM
