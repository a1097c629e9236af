/- Written by a program of this session out of the translation: plain functions of the Go functions here and the contracts that tie them to the code; no condition beside those in each statement. -/
import Derived.Test.YtdekcbpngbgjmaaPCx6
import Derived.Test.YtdekcbpngbgjmaaPCWf
namespace Go.Proofs.Ytdekcbpngbgjmaa.PC
open Go.RowKit Go.Proofs.YtdekcbpngbgjmaaW.PrintWords Go.Proofs.YtdekcbpngbgjmaaW.PrintLast
/-- What is left of CellsPlain, in plain words. -/
def beadlelaw22_CellsPlain.Ask : Prop := ∀ (l0 : List Int), ((l0.length ≤ maxLen ∧ ∀ el0 ∈ l0, (Lit.int .i64 el0).wf = true)) → ((l0.length * 8 ≤ 140737488351232 ∧ ∀ el0 ∈ l0, True)) → ∃ k, beadlelaw22_CellsPlain.f k l0 = some true
end Go.Proofs.Ytdekcbpngbgjmaa.PC
