/- Written by a program of this session out of the translation: plain functions of the Go functions here and the contracts that tie them to the code; no condition beside those in each statement. -/
import Derived.Test.YtnfjohpecedpnaaGreatDoorPMx8
import Derived.Test.YtnfjohpecedpnaaGreatDoorPMWf
namespace Go.Proofs.YtnfjohpecedpnaaGreatDoor.PM
open Go.RowKit Go.Proofs.YtnfjohpecedpnaaGreatDoorW.PrintWords Go.Proofs.YtnfjohpecedpnaaGreatDoorW.PrintLast
/-- What is left of MicroKnown, in plain words. -/
def beadlelaw18_MicroKnown.Ask : Prop := ∀ (a0 : ByteArray) (a1 : ByteArray) (a2 : ByteArray), (a0.size ≤ maxLen) → (a1.size ≤ maxLen) → (a2.size ≤ maxLen) → ((a0.size + 1) + (a1.size + 1) + (a2.size + 1) ≤ 1048576) → ∃ k, beadlelaw18_MicroKnown.f k a0 a1 a2 = some true
end Go.Proofs.YtnfjohpecedpnaaGreatDoor.PM
