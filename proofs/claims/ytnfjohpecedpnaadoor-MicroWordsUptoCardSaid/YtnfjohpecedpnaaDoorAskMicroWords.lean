/- Written by a program of this session out of the translation: plain functions of the Go functions here and the contracts that tie them to the code; no condition beside those in each statement. -/
import Derived.Test.YtnfjohpecedpnaaDoorPMx7
import Derived.Test.YtnfjohpecedpnaaDoorPMWf
namespace Go.Proofs.YtnfjohpecedpnaaDoor.PM
open Go.RowKit Go.Proofs.YtnfjohpecedpnaaDoorW.PrintWords Go.Proofs.YtnfjohpecedpnaaDoorW.PrintLast
/-- What is left of MicroWords, in plain words. -/
def beadlelaw18_MicroWords.Ask : Prop := ∀ (l0 : List Int) (a1 : Int), ((l0.length ≤ maxLen ∧ ∀ el0 ∈ l0, (Lit.int .i64 el0).wf = true)) → ((Lit.int .i64 a1).wf = true) → ((Opens.sumB (fun _ => 1) l0 + 1) + 1 ≤ 1048576) → ∃ k, beadlelaw18_MicroWords.f k l0 a1 = some true
end Go.Proofs.YtnfjohpecedpnaaDoor.PM
