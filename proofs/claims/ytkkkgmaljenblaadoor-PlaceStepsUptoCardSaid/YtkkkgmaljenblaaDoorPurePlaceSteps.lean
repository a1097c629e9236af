/- PlaceSteps, the plain law: the walked function and the document's answer agree at any text. -/
import Derived.Test.YtkkkgmaljenblaaDoorAskPlaceSteps
import Derived.Test.YtkkkgmaljenblaaDoorHSteps
import Derived.Test.YtkkkgmaljenblaaDoorRefSteps
namespace Go.Proofs.YtkkkgmaljenblaaDoor.Pure
open Go.RowKit Go.Proofs.YtkkkgmaljenblaaDoor.PS Go.Proofs.YtkkkgmaljenblaaDoorW.PrintWords Go.Proofs.YtkkkgmaljenblaaDoorW.PrintLast Go.Proofs.YtkkkgmaljenblaaDoor.Dec

theorem same_ev (xs : List Int) (hl : xs.length ≤ 4294967296) (d : Nat) : ∀ i : Nat, i + d = xs.length → Ev (fun k => beadlelaw03_PlaceSteps.l0 k xs xs i) true := by
  induction d with
  | zero =>
    intro i hi
    refine Ev.step (fun k => ?_) (Ev.now _)
    rw [beadlelaw03_PlaceSteps.l0, if_neg (by omega)]
  | succ d ih =>
    intro i hi
    refine Ev.step (fun k => ?_) (ih (i + 1) (by omega))
    rw [beadlelaw03_PlaceSteps.l0, if_pos (by omega), if_pos (by omega), if_pos (by omega), if_pos rfl, w64 (by omega) (by omega)]
    rfl
theorem PlaceSteps : beadlelaw03_PlaceSteps.Ask := by
  intro a0 _ hb
  have h3 : place_Steps.f (⟨#[47, 51]⟩ : ByteArray) = some ([3], true) := by
    unfold place_Steps.f
    have h1 : stepL [51] = some 3 := stepL_digits (c := 51) (r := []) (by decide) (fun _ => rfl) (by decide)
    have h2 : resL [] [47, 51] = ([3], true) := by
      rw [resL, if_pos rfl]
      show (match stepsL [[51]] with | some xs => (([] : List Int) ++ xs, true) | none => ([], false)) = _
      rw [stepsL, h1]
      rfl
    rw [if_pos (by decide), stepsRes_eq, if_neg (by decide), if_neg (by decide)]
    exact congrArg some h2
  have hs : a0.size ≤ 4000000000 := by omega
  refine Ev.rounds (g := fun k => beadlelaw03_PlaceSteps.f k a0) ?_
  refine Ev.congr (f := fun k => beadlelaw03_PlaceSteps.j0 k a0 false) (fun k => by rw [beadlelaw03_PlaceSteps.f, h3]; rfl) ?_
  have hw : place_Steps.f a0 = some (stepsRes a0) := by unfold place_Steps.f; rw [if_pos hs]
  have hr := ref_ev a0 (by omega)
  have hll := stepsRes_len a0
  generalize stepsRes a0 = r at hw hr hll
  obtain ⟨xs, b⟩ := r
  refine Ev.step (f := fun k => (beadleref03_Steps.f k a0).bind fun bt133 => (if (b != bt133.2) = true then (beadlelaw03_PlaceSteps.j1 k xs bt133.1 true) else (beadlelaw03_PlaceSteps.j1 k xs bt133.1 ((xs.length : Int) != (bt133.1.length : Int))))) (fun k => ?_) ?_
  · rw [beadlelaw03_PlaceSteps.j0, hw]
    rfl
  refine Ev.bind hr ?_
  simp only [bne_self_eq_false, Bool.false_eq_true, if_false]
  refine Ev.step (f := fun k => beadlelaw03_PlaceSteps.l0 k xs xs 0) (fun k => ?_) (same_ev xs (by simp at hll; omega) xs.length 0 (by omega))
  rw [beadlelaw03_PlaceSteps.j1]
  rfl
end Go.Proofs.YtkkkgmaljenblaaDoor.Pure
