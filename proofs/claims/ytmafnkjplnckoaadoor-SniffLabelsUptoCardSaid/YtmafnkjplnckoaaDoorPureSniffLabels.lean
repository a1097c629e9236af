/- SniffLabels, the plain law: the walked function and the document's answer agree at any name. -/
import Derived.Test.YtmafnkjplnckoaaDoorAskSniffLabels
import Derived.Test.YtmafnkjplnckoaaDoorRef
namespace Go.Proofs.YtmafnkjplnckoaaDoor.Pure
open Go.RowKit Go.Proofs.YtmafnkjplnckoaaDoor.PL Go.Proofs.YtmafnkjplnckoaaDoorW.PrintWords Go.Proofs.YtmafnkjplnckoaaDoorW.PrintLast

theorem label_j0 (x : ByteArray) (b : Bool) (hb : b = true → has utfB x.toList = true) (hn : b = false → has utfB x.toList = false) : Ev (fun k => sniff_Label.j0 k x b) (codeOf x.toList, decide (codeOf x.toList > 0)) := by
  cases b with
  | true =>
    refine Ev.step (fun k => ?_) (Ev.now _)
    rw [sniff_Label.j0, if_pos rfl]
    unfold codeOf
    rw [if_pos (hb rfl)]
    rfl
  | false =>
    have hu := hn rfl
    refine Ev.step (f := fun _ => some (codeOf x.toList, decide (codeOf x.toList > 0))) (fun k => ?_) (Ev.now _)
    rw [sniff_Label.j0, if_neg Bool.false_ne_true]
    unfold codeOf
    rw [hu, if_neg Bool.false_ne_true]
    have hw : has winB x.toList = (decide (x.toList = [119, 105, 110, 100, 111, 119, 115, 45, 49, 50, 53, 50]) || (decide (x.toList = [99, 112, 49, 50, 53, 50]) || (decide (x.toList = [108, 97, 116, 105, 110, 49]) || (decide (x.toList = [108, 49]) || (decide (x.toList = [105, 115, 111, 45, 56, 56, 53, 57, 45, 49]) || (decide (x.toList = [97, 115, 99, 105, 105]) || (decide (x.toList = [117, 115, 45, 97, 115, 99, 105, 105]) || false))))))) := by
      simp only [has, winB, List.any_cons, List.any_nil, ByteArray.toList_eq]
    rw [hw]
    generalize x.toList = t
    by_cases h1 : t = [119, 105, 110, 100, 111, 119, 115, 45, 49, 50, 53, 50]
    · rw [if_pos h1, decide_eq_true h1]; rfl
    rw [if_neg h1, decide_eq_false h1, Bool.false_or]
    by_cases h2 : t = [99, 112, 49, 50, 53, 50]
    · rw [if_pos h2, decide_eq_true h2]; rfl
    rw [if_neg h2, decide_eq_false h2, Bool.false_or]
    by_cases h3 : t = [108, 97, 116, 105, 110, 49]
    · rw [if_pos h3, decide_eq_true h3]; rfl
    rw [if_neg h3, decide_eq_false h3, Bool.false_or]
    by_cases h4 : t = [108, 49]
    · rw [if_pos h4, decide_eq_true h4]; rfl
    rw [if_neg h4, decide_eq_false h4, Bool.false_or]
    by_cases h5 : t = [105, 115, 111, 45, 56, 56, 53, 57, 45, 49]
    · rw [if_pos h5, decide_eq_true h5]; rfl
    rw [if_neg h5, decide_eq_false h5, Bool.false_or]
    by_cases h6 : t = [97, 115, 99, 105, 105]
    · rw [if_pos h6, decide_eq_true h6]; rfl
    rw [if_neg h6, decide_eq_false h6, Bool.false_or]
    by_cases h7 : t = [117, 115, 45, 97, 115, 99, 105, 105]
    · rw [if_pos h7, decide_eq_true h7]; rfl
    rw [if_neg h7, decide_eq_false h7, Bool.false_or]
    rfl
theorem sniff_ev (a : ByteArray) (hs : a.size ≤ 4000000000) : Ev (fun k => sniff_Label.f k a) (codeOf (nameOf a).toList, decide (codeOf (nameOf a).toList > 0)) := by
  have h1 : strings_Trim.f a (⟨#[9, 10, 12, 13, 32]⟩ : ByteArray) = some (trimB_ a) := by
    unfold strings_Trim.f
    rw [if_pos ⟨by decide, by decide, hs⟩]
    rfl
  have h2 : sniff_small.f (trimB_ a) = some (nameOf a) := by
    unfold sniff_small.f
    rw [if_pos (Nat.le_trans (trimB_size a) hs)]
    rfl
  generalize nameOf a = x at h2 ⊢
  have hu : has utfB x.toList = (decide (x.toList = [117, 116, 102, 45, 56]) || (decide (x.toList = [117, 116, 102, 56]) || (decide (x.toList = [117, 110, 105, 99, 111, 100, 101, 45, 49, 45, 49, 45, 117, 116, 102, 45, 56]) || (decide (x.toList = [117, 116, 102, 45, 49, 54]) || (decide (x.toList = [117, 116, 102, 45, 49, 54, 108, 101]) || (decide (x.toList = [117, 116, 102, 45, 49, 54, 98, 101]) || false)))))) := by
    simp only [has, utfB, List.any_cons, List.any_nil, ByteArray.toList_eq]
  have hgo : ∀ b : Bool, b = has utfB x.toList → Ev (fun k => sniff_Label.j0 k x b) (codeOf x.toList, decide (codeOf x.toList > 0)) := fun b hb => label_j0 x b (fun h => by rw [← hb, h]) (fun h => by rw [← hb, h])
  refine Ev.congr (f := fun k => sniff_Label.j0 k x (has utfB x.toList)) (fun k => ?_) (hgo _ rfl)
  rw [sniff_Label.f, h1, Option.bind_some, h2, Option.bind_some, hu]
  by_cases c1 : x.toList = [117, 116, 102, 45, 56]
  · rw [if_pos c1, c1]; rfl
  rw [if_neg c1, decide_eq_false c1, Bool.false_or]
  by_cases c2 : x.toList = [117, 116, 102, 56]
  · rw [if_pos c2, c2]; rfl
  rw [if_neg c2, decide_eq_false c2, Bool.false_or]
  by_cases c3 : x.toList = [117, 110, 105, 99, 111, 100, 101, 45, 49, 45, 49, 45, 117, 116, 102, 45, 56]
  · rw [if_pos c3, c3]; rfl
  rw [if_neg c3, decide_eq_false c3, Bool.false_or]
  by_cases c4 : x.toList = [117, 116, 102, 45, 49, 54]
  · rw [if_pos c4, c4]; rfl
  rw [if_neg c4, decide_eq_false c4, Bool.false_or]
  by_cases c5 : x.toList = [117, 116, 102, 45, 49, 54, 108, 101]
  · rw [if_pos c5, c5]; rfl
  rw [if_neg c5, decide_eq_false c5, Bool.false_or]
  by_cases c6 : x.toList = [117, 116, 102, 45, 49, 54, 98, 101]
  · rw [c6]; rfl
  · rw [decide_eq_false c6]
    have : (x.toList == [117, 116, 102, 45, 49, 54, 98, 101]) = false := by simpa using c6
    rw [this]
    rfl
theorem SniffLabels : beadlelaw01_SniffLabels.Ask := by
  intro a _ hb
  refine Ev.rounds (g := fun k => beadlelaw01_SniffLabels.f k a) ?_
  have h0 := sniff_ev (⟨#[85, 84, 70, 56]⟩ : ByteArray) (by decide)
  have e0 : codeOf (nameOf (⟨#[85, 84, 70, 56]⟩ : ByteArray)).toList = 1 := by
    have e : (nameOf (⟨#[85, 84, 70, 56]⟩ : ByteArray)).toList = [117, 116, 102, 56] := by
      rw [ByteArray.toList_eq]
      decide +kernel
    rw [e]
    unfold codeOf
    have hu : has utfB [117, 116, 102, 56] = true := by
      simp only [has, utfB, List.any_cons, List.any_nil, ByteArray.toList_eq]
      decide
    rw [if_pos hu]
  rw [e0] at h0
  refine Ev.bind h0 ?_
  simp only [if_true]
  refine Ev.step (f := fun k => (sniff_Label.f k a).bind fun bt126 => ((beadleref01_Label.f k a).bind fun t128 => (if bt126.1 = t128 then (some (bt126.2 == (decide (t128 > 0)))) else (some false)))) (fun k => ?_) ?_
  · rw [beadlelaw01_SniffLabels.j0]
    rfl
  refine Ev.bind (sniff_ev a (by omega)) ?_
  refine Ev.bind (label_ev a (by omega)) ?_
  simp only [if_true, beq_self_eq_true]
  exact Ev.now _
end Go.Proofs.YtmafnkjplnckoaaDoor.Pure
