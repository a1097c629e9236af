/- Written by a program of this session out of the translation: plain functions of the Go functions here and the contracts that tie them to the code; no condition beside those in each statement. -/
import Derived.Test.YtnfjohpecedpnaaGreatDoorPMx8
import Derived.Test.YtnfjohpecedpnaaGreatDoorPMWf
namespace Go.Proofs.YtnfjohpecedpnaaGreatDoor.PM
open Go.RowKit Go.Proofs.YtnfjohpecedpnaaGreatDoorW.PrintWords Go.Proofs.YtnfjohpecedpnaaGreatDoorW.PrintLast
/-- What is left of MicroDates, in plain words. -/
def beadlelaw18_MicroDates.Ask : Prop := ∀ (a0 : ByteArray) (a1 : Int) (a2 : Int), (a0.size ≤ maxLen) → ((Lit.int .i64 a1).wf = true) → ((Lit.int .i64 a2).wf = true) → ((a0.size + 1) + 1 + 1 ≤ 1048576) → ∃ k, beadlelaw18_MicroDates.f k a0 a1 a2 = some true
end Go.Proofs.YtnfjohpecedpnaaGreatDoor.PM
