/- Written by a program of this session out of the translation: plain functions of the Go functions here and the contracts that tie them to the code; no condition beside those in each statement. -/
import Derived.Test.YtkkdpkfachpjeaaPOx0
import Derived.Test.YtkkdpkfachpjeaaOpens
namespace Go.Proofs.Ytkkdpkfachpjeaa.PO
open Go.RowKit Go.Proofs.Ytkkdpkfachpjeaa.Opens Go.Proofs.YtkkdpkfachpjeaaW.PrintWords Go.Proofs.YtkkdpkfachpjeaaW.PrintLast
def bulk23 (x : S23) : Nat := 1 + (1 + ((x.f2.size + 1)))
def wf23 (x : S23) : Prop := (Lit.int .i64 x.f0).wf = true ∧ ((Lit.int .i64 x.f1).wf = true ∧ (x.f2.size ≤ maxLen))
theorem open23 : Opn Try.prog k23 23 bulk23 wf23 := Opn.iso _ (fun x => (⟨x.1, x.2.1, x.2.2⟩ : S23)) (fun _ => rfl) (Opn.struct (d := (Kd.pair (Kd.int .i64) (Kd.pair (Kd.int .i64) Kd.string))) Try.underlying23 (by kernel_rfl) (Fields.cons rfl (Opn.int Try.underlying3 (by kernel_rfl)) (Fields.cons rfl (Opn.int Try.underlying3 (by kernel_rfl)) (Fields.one rfl (Opn.string Try.underlying9 (by kernel_rfl))))))
end Go.Proofs.Ytkkdpkfachpjeaa.PO
