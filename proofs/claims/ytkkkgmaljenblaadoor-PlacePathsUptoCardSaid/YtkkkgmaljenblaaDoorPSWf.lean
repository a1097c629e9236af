/- Written by a program of this session out of the translation: plain functions of the Go functions here and the contracts that tie them to the code; no condition beside those in each statement. -/
import Derived.Test.YtkkkgmaljenblaaDoorPSx0
import Derived.Test.YtkkkgmaljenblaaDoorOpens
namespace Go.Proofs.YtkkkgmaljenblaaDoor.PS
open Go.RowKit Go.Proofs.YtkkkgmaljenblaaDoor.Opens Go.Proofs.YtkkkgmaljenblaaDoorW.PrintWords Go.Proofs.YtkkkgmaljenblaaDoorW.PrintLast
set_option linter.unusedVariables false
end Go.Proofs.YtkkkgmaljenblaaDoor.PS
