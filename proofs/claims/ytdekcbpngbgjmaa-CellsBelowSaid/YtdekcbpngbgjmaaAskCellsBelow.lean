/- Written by a program of this session out of the translation: plain functions of the Go functions here and the contracts that tie them to the code; no condition beside those in each statement. -/
import Derived.Test.YtdekcbpngbgjmaaPCx8
import Derived.Test.YtdekcbpngbgjmaaPCWf
namespace Go.Proofs.Ytdekcbpngbgjmaa.PC
open Go.RowKit Go.Proofs.YtdekcbpngbgjmaaW.PrintWords Go.Proofs.YtdekcbpngbgjmaaW.PrintLast
/-- What is left of CellsBelow, in plain words. -/
def beadlelaw22_CellsBelow.Ask : Prop := ∀ (l0 : List (List (S37))) (l1 : List (List (S37))), ((l0.length ≤ maxLen ∧ ∀ el0 ∈ l0, (el0.length ≤ maxLen ∧ ∀ eel0 ∈ el0, wf37 eel0))) → ((l0.length * 24 ≤ 140737488351232 ∧ ∀ el0 ∈ l0, (el0.length * 16 ≤ 140737488351232 ∧ ∀ eel0 ∈ el0, sz37 eel0))) → ((l1.length ≤ maxLen ∧ ∀ el1 ∈ l1, (el1.length ≤ maxLen ∧ ∀ eel1 ∈ el1, wf37 eel1))) → ((l1.length * 24 ≤ 140737488351232 ∧ ∀ el1 ∈ l1, (el1.length * 16 ≤ 140737488351232 ∧ ∀ eel1 ∈ el1, sz37 eel1))) → ∃ k, beadlelaw22_CellsBelow.f k l0 l1 = some true
end Go.Proofs.Ytdekcbpngbgjmaa.PC
