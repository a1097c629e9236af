/- Written by a program of this session out of the translation: plain functions of the Go functions here and the contracts that tie them to the code; no condition beside those in each statement. -/
import Derived.Test.YtnfjohpecedpnaaGreatDoorPMx0
import Derived.Test.YtnfjohpecedpnaaGreatDoorOpens
namespace Go.Proofs.YtnfjohpecedpnaaGreatDoor.PM
open Go.RowKit Go.Proofs.YtnfjohpecedpnaaGreatDoor.Opens Go.Proofs.YtnfjohpecedpnaaGreatDoorW.PrintWords Go.Proofs.YtnfjohpecedpnaaGreatDoorW.PrintLast
set_option linter.unusedVariables false
end Go.Proofs.YtnfjohpecedpnaaGreatDoor.PM
