/- Written by a program of this session out of the translation: plain functions of the Go functions here and the contracts that tie them to the code; no condition beside those in each statement. -/
import Derived.Test.YtkkdpkfachpjeaaPSx0
import Derived.Test.YtkkdpkfachpjeaaOpens
namespace Go.Proofs.Ytkkdpkfachpjeaa.PS
open Go.RowKit Go.Proofs.Ytkkdpkfachpjeaa.Opens Go.Proofs.YtkkdpkfachpjeaaW.PrintWords Go.Proofs.YtkkdpkfachpjeaaW.PrintLast
set_option linter.unusedVariables false
def bulk23 (x : S23) : Nat := 1 + (1 + ((x.f2.size + 1)))
def wf23 (x : S23) : Prop := (Lit.int .i64 x.f0).wf = true ∧ ((Lit.int .i64 x.f1).wf = true ∧ (x.f2.size ≤ maxLen))
def sz23 (x : S23) : Prop := True ∧ (True ∧ (x.f2.size ≤ 140737488351232))
theorem open23 : Opn Try.prog k23 23 bulk23 wf23 sz23 := Opn.iso _ (fun x => (⟨x.1, x.2.1, x.2.2⟩ : S23)) (fun _ => rfl) (Opn.struct (d := (Kd.pair (Kd.int .i64) (Kd.pair (Kd.int .i64) Kd.string))) Try.underlying23 (by kernel_rfl) (by first | rfl | kernel_rfl) (Fields.cons (Opn.int Try.underlying3 (by kernel_rfl)) (Fields.cons (Opn.int Try.underlying3 (by kernel_rfl)) (Fields.one (Opn.string Try.underlying9 (by kernel_rfl))))))
end Go.Proofs.Ytkkdpkfachpjeaa.PS
