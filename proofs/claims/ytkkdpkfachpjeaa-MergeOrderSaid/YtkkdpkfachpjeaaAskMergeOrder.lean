/- Written by a program of this session out of the translation: plain functions of the Go functions here and the contracts that tie them to the code; no condition beside those in each statement. -/
import Derived.Test.YtkkdpkfachpjeaaPOx4
import Derived.Test.YtkkdpkfachpjeaaPOWf
namespace Go.Proofs.Ytkkdpkfachpjeaa.PO
open Go.RowKit Go.Proofs.YtkkdpkfachpjeaaW.PrintWords Go.Proofs.YtkkdpkfachpjeaaW.PrintLast
/-- What is left of MergeOrder, in plain words. -/
def beadlelaw06_MergeOrder.Ask : Prop := ∀ (a0_0 : Int) (a0_1 : Int) (a0_2 : ByteArray) (a1_0 : Int) (a1_1 : Int) (a1_2 : ByteArray), (wf23 (⟨a0_0, a0_1, a0_2⟩ : S23)) → (wf23 (⟨a1_0, a1_1, a1_2⟩ : S23)) → ∃ k, beadlelaw06_MergeOrder.f k a0_0 a0_1 a0_2 a1_0 a1_1 a1_2 = some true
end Go.Proofs.Ytkkdpkfachpjeaa.PO
