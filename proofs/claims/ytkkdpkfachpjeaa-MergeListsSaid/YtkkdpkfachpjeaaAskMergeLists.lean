/- Written by a program of this session out of the translation: plain functions of the Go functions here and the contracts that tie them to the code; no condition beside those in each statement. -/
import Derived.Test.YtkkdpkfachpjeaaPSx7
import Derived.Test.YtkkdpkfachpjeaaPSWf
namespace Go.Proofs.Ytkkdpkfachpjeaa.PS
open Go.RowKit Go.Proofs.YtkkdpkfachpjeaaW.PrintWords Go.Proofs.YtkkdpkfachpjeaaW.PrintLast
/-- What is left of MergeLists, in plain words. -/
def beadlelaw06_MergeLists.Ask : Prop := ∀ (l0 : List (List (S23))), ((l0.length ≤ maxLen ∧ ∀ el0 ∈ l0, (el0.length ≤ maxLen ∧ ∀ eel0 ∈ el0, wf23 eel0))) → ((l0.length * 24 ≤ 140737488351232 ∧ ∀ el0 ∈ l0, (el0.length * 32 ≤ 140737488351232 ∧ ∀ eel0 ∈ el0, sz23 eel0))) → ∃ k, beadlelaw06_MergeLists.f k l0 = some true
end Go.Proofs.Ytkkdpkfachpjeaa.PS
