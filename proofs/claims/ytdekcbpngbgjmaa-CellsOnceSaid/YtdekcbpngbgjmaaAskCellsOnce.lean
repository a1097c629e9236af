/- Written by a program of this session out of the translation: plain functions of the Go functions here and the contracts that tie them to the code; no condition beside those in each statement. -/
import Derived.Test.YtdekcbpngbgjmaaPCx7
import Derived.Test.YtdekcbpngbgjmaaPCWf
namespace Go.Proofs.Ytdekcbpngbgjmaa.PC
open Go.RowKit Go.Proofs.YtdekcbpngbgjmaaW.PrintWords Go.Proofs.YtdekcbpngbgjmaaW.PrintLast
/-- What is left of CellsOnce, in plain words. -/
def beadlelaw22_CellsOnce.Ask : Prop := ∀ (l0 : List (List (S37))), ((l0.length ≤ maxLen ∧ ∀ el0 ∈ l0, (el0.length ≤ maxLen ∧ ∀ eel0 ∈ el0, wf37 eel0))) → ((l0.length * 24 ≤ 140737488351232 ∧ ∀ el0 ∈ l0, (el0.length * 16 ≤ 140737488351232 ∧ ∀ eel0 ∈ el0, sz37 eel0))) → ∃ k, beadlelaw22_CellsOnce.f k l0 = some true
end Go.Proofs.Ytdekcbpngbgjmaa.PC
