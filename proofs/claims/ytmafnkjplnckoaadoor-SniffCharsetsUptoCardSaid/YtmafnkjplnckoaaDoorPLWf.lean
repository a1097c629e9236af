/- Written by a program of this session out of the translation: plain functions of the Go functions here and the contracts that tie them to the code; no condition beside those in each statement. -/
import Derived.Test.YtmafnkjplnckoaaDoorPLx0
import Derived.Test.YtmafnkjplnckoaaDoorOpens
namespace Go.Proofs.YtmafnkjplnckoaaDoor.PL
open Go.RowKit Go.Proofs.YtmafnkjplnckoaaDoor.Opens Go.Proofs.YtmafnkjplnckoaaDoorW.PrintWords Go.Proofs.YtmafnkjplnckoaaDoorW.PrintLast
set_option linter.unusedVariables false
end Go.Proofs.YtmafnkjplnckoaaDoor.PL
