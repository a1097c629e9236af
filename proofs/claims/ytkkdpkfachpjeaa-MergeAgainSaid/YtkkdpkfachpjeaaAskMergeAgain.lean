/- Written by a program of this session out of the translation: plain functions of the Go functions here and the contracts that tie them to the code; no condition beside those in each statement. -/
import Derived.Test.YtkkdpkfachpjeaaHAgain
import Derived.Test.YtkkdpkfachpjeaaPSWf
namespace Go.Proofs.Ytkkdpkfachpjeaa.PS
open Go.RowKit Go.Proofs.YtkkdpkfachpjeaaW.PrintWords Go.Proofs.YtkkdpkfachpjeaaW.PrintLast
/-- What is left of MergeAgain, in plain words. -/
def beadlelaw06_MergeAgain.Ask : Prop := ∀ (l0 : List (S23)) (a1 : Int), ((l0.length ≤ maxLen ∧ ∀ el0 ∈ l0, wf23 el0)) → ((l0.length * 32 ≤ 140737488351232 ∧ ∀ el0 ∈ l0, sz23 el0)) → ((Lit.int .i64 a1).wf = true) → ∃ k, beadlelaw06_MergeAgain.f k l0 a1 = some true
end Go.Proofs.Ytkkdpkfachpjeaa.PS
