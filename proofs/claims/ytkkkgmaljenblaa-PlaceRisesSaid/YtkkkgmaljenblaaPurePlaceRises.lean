/- The plain law of PlaceRises: what the functions compute answers true. Conditions: those of the definition Ask. -/
import Derived.Test.YtkkkgmaljenblaaAskPlaceRises
namespace Go.Proofs.Ytkkkgmaljenblaa.Pure
open Go.RowKit Go.Proofs.Ytkkkgmaljenblaa.PL Go.Proofs.YtkkkgmaljenblaaW.PrintWords Go.Proofs.YtkkkgmaljenblaaW.PrintLast

theorem PlaceRises : beadlelaw03_PlaceRises.Ask := by
  intro l0 l1 a2 _ _ _
  rfl

end Go.Proofs.Ytkkkgmaljenblaa.Pure
