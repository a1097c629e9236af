/- Written by a program of this session out of the translation: plain functions of the Go functions here and the contracts that tie them to the code; no condition beside those in each statement. -/
import Derived.Test.YtkkkgmaljenblaaHLines
import Derived.Test.YtkkkgmaljenblaaPLWf
namespace Go.Proofs.Ytkkkgmaljenblaa.PL
open Go.RowKit Go.Proofs.YtkkkgmaljenblaaW.PrintWords Go.Proofs.YtkkkgmaljenblaaW.PrintLast
/-- What is left of PlaceLines, in plain words. -/
def beadlelaw03_PlaceLines.Ask : Prop := ∀ (l0 : List Int) (l1 : List Int) (a2 : Int), ((l0.length ≤ maxLen ∧ ∀ x ∈ l0, (Lit.int .i64 x).wf = true)) → ((l1.length ≤ maxLen ∧ ∀ x ∈ l1, (Lit.int .i64 x).wf = true)) → ((Lit.int .i64 a2).wf = true) → ((Opens.sumB (fun _ => 1) l0 + 1) + (Opens.sumB (fun _ => 1) l1 + 1) + 1 ≤ 1048576) → beadlelaw03_PlaceLines.f l0 l1 a2 = some true
end Go.Proofs.Ytkkkgmaljenblaa.PL
