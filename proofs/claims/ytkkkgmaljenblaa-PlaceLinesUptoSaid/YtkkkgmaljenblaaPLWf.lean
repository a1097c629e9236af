/- Written by a program of this session out of the translation: plain functions of the Go functions here and the contracts that tie them to the code; no condition beside those in each statement. -/
import Derived.Test.YtkkkgmaljenblaaPLx0
import Derived.Test.YtkkkgmaljenblaaOpens
namespace Go.Proofs.Ytkkkgmaljenblaa.PL
open Go.RowKit Go.Proofs.Ytkkkgmaljenblaa.Opens Go.Proofs.YtkkkgmaljenblaaW.PrintWords Go.Proofs.YtkkkgmaljenblaaW.PrintLast
end Go.Proofs.Ytkkkgmaljenblaa.PL
