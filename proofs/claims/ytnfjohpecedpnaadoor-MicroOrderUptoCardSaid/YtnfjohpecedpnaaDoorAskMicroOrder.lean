/- Written by a program of this session out of the translation: plain functions of the Go functions here and the contracts that tie them to the code; no condition beside those in each statement. -/
import Derived.Test.YtnfjohpecedpnaaDoorPMx6
import Derived.Test.YtnfjohpecedpnaaDoorPMWf
namespace Go.Proofs.YtnfjohpecedpnaaDoor.PM
open Go.RowKit Go.Proofs.YtnfjohpecedpnaaDoorW.PrintWords Go.Proofs.YtnfjohpecedpnaaDoorW.PrintLast
/-- What is left of MicroOrder, in plain words. -/
def beadlelaw18_MicroOrder.Ask : Prop := ∀ (a0 : ByteArray), (a0.size ≤ maxLen) → ((a0.size + 1) ≤ 1048576) → ∃ k, beadlelaw18_MicroOrder.f k a0 = some true
end Go.Proofs.YtnfjohpecedpnaaDoor.PM
