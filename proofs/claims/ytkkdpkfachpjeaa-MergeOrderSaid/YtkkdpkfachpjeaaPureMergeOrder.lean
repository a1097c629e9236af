/- The plain law of MergeOrder: the program's order is the reference's, just one of two is ahead, but of two that are one. Conditions: those of the definition Ask. -/
import Derived.Test.YtkkdpkfachpjeaaAskMergeOrder
import Derived.Test.YtkkdpkfachpjeaaOrd
namespace Go.Proofs.Ytkkdpkfachpjeaa.Pure
open Go.RowKit Go.Proofs.Ytkkdpkfachpjeaa.PO Go.Proofs.Ytkkdpkfachpjeaa.Ord Go.Proofs.YtkkdpkfachpjeaaW.PrintWords Go.Proofs.YtkkdpkfachpjeaaW.PrintLast

theorem MergeOrder : beadlelaw06_MergeOrder.Ask := by
  intro c a s c' a' s' _ _
  refine ⟨4, ?_⟩
  unfold beadlelaw06_MergeOrder.f
  rw [less_eq 0, less_eq 0, less_eq 0, ref_eq]
  have h0 : dAhead 0 1 (⟨#[]⟩ : ByteArray).data.toList 0 2 (⟨#[]⟩ : ByteArray).data.toList = true := rfl
  rw [h0]
  simp only [Option.bind_some, if_true, bl]
  unfold dAhead
  by_cases e : a = a'
  · subst e
    by_cases e2 : c = c'
    · subst e2
      simp only [if_true]
      rcases cb_cases s.data.toList s'.data.toList with ⟨_, e2, e3, e4⟩ | ⟨_, e2, e3, e4⟩ | ⟨_, e2, e3, e4⟩ <;> rw [e2, e3] <;> first | (simp [e4]; done) | (simp; intro hh; exact e4 (by rw [hh]))
    · have e3 : ¬ c' = c := fun h => e2 h.symm
      by_cases l : c < c'
      · have g : ¬ c' < c := by omega
        simp [e2, e3, l, g]
      · have g : c' < c := by omega
        simp [e2, e3, l, g]
  · have e3 : ¬ a' = a := fun h => e h.symm
    by_cases l : a < a'
    · have g : ¬ a' < a := by omega
      simp [e, e3, l, g]
    · have g : a' < a := by omega
      simp [e, e3, l, g]

end Go.Proofs.Ytkkdpkfachpjeaa.Pure
