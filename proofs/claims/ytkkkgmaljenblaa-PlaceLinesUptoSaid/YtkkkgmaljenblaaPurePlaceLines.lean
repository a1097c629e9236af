/- The plain law of PlaceLines: what the functions compute answers true. Conditions: those of the definition Ask. -/
import Derived.Test.YtkkkgmaljenblaaAskPlaceLines
namespace Go.Proofs.Ytkkkgmaljenblaa.Pure
open Go.RowKit Go.Proofs.Ytkkkgmaljenblaa.PL Go.Proofs.YtkkkgmaljenblaaW.PrintWords Go.Proofs.YtkkkgmaljenblaaW.PrintLast

theorem PlaceLines : beadlelaw03_PlaceLines.Ask := by
  intro l0 l1 a2 _ _ _ hb
  have h := Opens.length_le_sumB (B := fun _ : Int => 1) (fun _ => Nat.le_refl _) l0
  unfold beadlelaw03_PlaceLines.f
  rw [if_pos (by omega)]

end Go.Proofs.Ytkkkgmaljenblaa.Pure
