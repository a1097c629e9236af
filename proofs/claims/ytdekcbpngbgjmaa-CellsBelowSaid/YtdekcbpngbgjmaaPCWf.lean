/- Written by a program of this session out of the translation: plain functions of the Go functions here and the contracts that tie them to the code; no condition beside those in each statement. -/
import Derived.Test.YtdekcbpngbgjmaaPCx0
import Derived.Test.YtdekcbpngbgjmaaOpens
namespace Go.Proofs.Ytdekcbpngbgjmaa.PC
open Go.RowKit Go.Proofs.Ytdekcbpngbgjmaa.Opens Go.Proofs.YtdekcbpngbgjmaaW.PrintWords Go.Proofs.YtdekcbpngbgjmaaW.PrintLast
set_option linter.unusedVariables false
def bulk37 (x : S37) : Nat := 1 + (1)
def wf37 (x : S37) : Prop := (Lit.int .i64 x.f0).wf = true ∧ ((Lit.int .i64 x.f1).wf = true)
def sz37 (x : S37) : Prop := True ∧ (True)
theorem open37 : Opn Try.prog k37 37 bulk37 wf37 sz37 := Opn.iso _ (fun x => (⟨x.1, x.2⟩ : S37)) (fun _ => rfl) (Opn.array (d := (Kd.pair (Kd.int .i64) (Kd.int .i64))) Try.underlying37 (by kernel_rfl) (by first | rfl | kernel_rfl) (Fields.cons (Opn.int Try.underlying3 (by kernel_rfl)) (Fields.one (Opn.int Try.underlying3 (by kernel_rfl)))))
end Go.Proofs.Ytdekcbpngbgjmaa.PC
