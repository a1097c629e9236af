/- MergeAgain, the plain law: what was sorted is as it was when it is sorted again, or merged with itself, or with its two parts. -/
import Derived.Test.YtkkdpkfachpjeaaAskMergeAgain
import Derived.Test.YtkkdpkfachpjeaaPureMergeSorts
import Derived.Test.YtkkdpkfachpjeaaHHeapA
namespace Go.Proofs.Ytkkdpkfachpjeaa.Pure
open Go.Lib Go.RowKit Go.Proofs.Ytkkdpkfachpjeaa.PS Go.Proofs.Ytkkdpkfachpjeaa.OrdS Go.Proofs.YtkkdpkfachpjeaaW.PrintWords Go.Proofs.YtkkdpkfachpjeaaW.PrintLast

theorem less_ev (x y : S27) : Ev (fun k => merge_Less.f k x.f0 x.f1 x.f2 y.f0 y.f1 y.f2) (lt27 x y) := Ev.of (fun k => merge_Less.mono _ _ _ _ _ _ k) (less_f x y)
theorem sort_f (l : List S27) (h : l.length ≤ 1000000000) : merge_Sort.f l = some (sortD l) := by
  unfold merge_Sort.f
  rw [if_pos h]
theorem merge_ff (ls : List (List S27)) (h1 : ∀ l ∈ ls, Rise l) (h2 : ls.length ≤ 1000000) (h3 : Mrg.size ls ≤ 1000000000) : merge_Merge.f ls = some (sortD ls.flatten) := by
  unfold merge_Merge.f
  rw [if_pos ⟨List.all_eq_true.2 (fun l hl => decide_eq_true (h1 l hl)), h2, h3⟩]
/-- The four rows are one: each round is passed. -/
theorem rows_ev (a : List S27) (hr : Rise a) (hl : a.length ≤ 100000) (d : Nat) : ∀ i, i + d = a.length → Ev (fun k => beadlelaw06_MergeAgain.l1 k a a a a (i : Int)) true := by
  induction d with
  | zero =>
    intro i hi
    refine Ev.step (fun k => ?_) (Ev.now _)
    rw [beadlelaw06_MergeAgain.l1, if_neg (by omega)]
  | succ d ih =>
    intro i hi
    have hlt : i < a.length := by omega
    have hgo := ih (i + 1) (by omega)
    have hw : wrap64 ((i : Int) + 1) = ((i + 1 : Nat) : Int) := by rw [w64 (by omega) (by omega)]; rfl
    have hn : ∀ x : S27, ¬ ((!((x.f0) == (x.f0)) || (!((x.f1) == (x.f1)) || (!(((x.f2).toList) == ((x.f2).toList))))) = true) := fun x => by simp
    by_cases h0 : 0 < i
    · have hw1 : wrap64 ((i : Int) - 1) = ((i - 1 : Nat) : Int) := by rw [w64 (by omega) (by omega)]; omega
      have hlt1 : i - 1 < a.length := by omega
      have hll : lt27 a[i - 1] a[i] = true := List.pairwise_iff_getElem.1 hr (i - 1) i hlt1 hlt (by omega)
      refine Ev.step (f := fun k => (merge_Less.f k a[i - 1].f0 a[i - 1].f1 a[i - 1].f2 a[i].f0 a[i].f1 a[i].f2).bind fun t274 => (if t274 = true then (beadlelaw06_MergeAgain.l1 k a a a a ((i + 1 : Nat) : Int)) else (some false))) (fun k => ?_) ?_
      · rw [beadlelaw06_MergeAgain.l1, if_pos (by omega), if_pos (by omega), if_pos (by omega), if_neg (hn _), if_pos (by omega), if_neg (hn _), if_pos (by omega), if_neg (hn _), if_pos (by omega), hw1, if_pos (by omega), if_pos (by omega), hw, rd27 hlt1, rd27 hlt]
      · refine Ev.bind (less_ev a[i - 1] a[i]) ?_
        rw [hll]
        exact Ev.congr (fun k => if_pos rfl) hgo
    · refine Ev.step (fun k => ?_) hgo
      rw [beadlelaw06_MergeAgain.l1, if_pos (by omega), if_pos (by omega), if_pos (by omega), if_neg (hn _), if_pos (by omega), if_neg (hn _), if_pos (by omega), if_neg (hn _), if_neg (by omega), hw]
/-- From the sorted row on. -/
theorem again_j1 (a1 : Int) (x5 : List S27) (h5 : x5.length ≤ 300) : Ev (fun k => beadlelaw06_MergeAgain.j1 k a1 x5) true := by
  have hn := sortD_len x5
  have hr := sortD_rise x5
  obtain ⟨a, ha⟩ : ∃ a, a = sortD x5 := ⟨_, rfl⟩
  rw [← ha] at hn hr
  have hw : wrap64 ((a.length : Int) + 1) = (a.length : Int) + 1 := w64 (by omega) (by omega)
  obtain ⟨c, hc⟩ : ∃ c, c = Int.tmod (wrap64 ((wrap64 ((Int.tmod a1 (wrap64 ((a.length : Int) + 1))) + (a.length : Int))) + 1)) (wrap64 ((a.length : Int) + 1)) := ⟨_, rfl⟩
  have hcb : 0 ≤ c ∧ c ≤ (a.length : Int) := by
    have h1 := Int.tmod_lt_of_pos a1 (show (0 : Int) < (a.length : Int) + 1 by omega)
    have h2 := Int.lt_tmod_of_pos a1 (show (0 : Int) < (a.length : Int) + 1 by omega)
    rw [hw] at hc
    generalize Int.tmod a1 ((a.length : Int) + 1) = m at hc h1 h2
    rw [w64 (n := m + (a.length : Int)) (by omega) (by omega), w64 (n := m + (a.length : Int) + 1) (by omega) (by omega)] at hc
    have h3 := Int.tmod_lt_of_pos (m + (a.length : Int) + 1) (show (0 : Int) < (a.length : Int) + 1 by omega)
    have h4 := Int.tmod_nonneg ((a.length : Int) + 1) (show (0 : Int) ≤ m + (a.length : Int) + 1 by omega)
    rw [hc]
    omega
  have hid : sortD a = a := sortD_eq hr (fun _ => Iff.rfl)
  have h2 : merge_Merge.f [a, a] = some a := by
    rw [merge_ff [a, a] (fun l hl => by simp at hl; rw [hl]; exact hr) (by simp) (by simp [Mrg.size]; omega)]
    exact congrArg some (sortD_eq hr (fun x => by simp))
  have hdr : Rise (a.drop c.toNat) := hr.sublist (List.drop_sublist _ _)
  have htk : Rise (a.take c.toNat) := hr.sublist (List.take_sublist _ _)
  have h3 : merge_Merge.f [a.drop c.toNat, a.take c.toNat, a] = some a := by
    rw [merge_ff [a.drop c.toNat, a.take c.toNat, a] (fun l hl => by
      rcases List.mem_cons.1 hl with e | hl
      · rw [e]; exact hdr
      rcases List.mem_cons.1 hl with e | hl
      · rw [e]; exact htk
      · rw [List.mem_singleton.1 hl]; exact hr) (by simp) (by simp [Mrg.size]; omega)]
    refine congrArg some (sortD_eq hr (fun x => ?_))
    simp only [List.flatten_cons, List.flatten_nil, List.append_nil, List.mem_append]
    exact ⟨fun h => .inr (.inr h), fun h => h.elim List.mem_of_mem_drop fun h => h.elim List.mem_of_mem_take id⟩
  have hgo : Ev (fun k => beadlelaw06_MergeAgain.j2 k a a a a false) true := by
    refine Ev.step (fun k => ?_) (rows_ev a hr (by omega) a.length 0 (by omega))
    rw [beadlelaw06_MergeAgain.j2, if_neg (by decide)]
    rfl
  refine Ev.step (fun k => ?_) hgo
  rw [beadlelaw06_MergeAgain.j1, sort_f x5 (by omega), Option.bind_some, ← ha, if_neg (by rw [hw]; omega), sort_f a (by omega), Option.bind_some, hid, h2, Option.bind_some, ← hc, if_pos hcb.1, if_pos hcb.2, h3, Option.bind_some, if_pos rfl, if_pos rfl, bne_self_eq_false]
theorem again_ev (l : List S23) (a1 : Int) (d : Nat) : ∀ i, i + d = min l.length 300 → Ev (fun k => beadlelaw06_MergeAgain.l0 k l a1 ((l.take i).map t27) (i : Int)) true := by
  induction d with
  | zero =>
    intro i hi
    have h1 : ((l.take i).map t27).length = i := by rw [List.length_map, List.length_take]; omega
    refine Ev.step (fun k => ?_) (again_j1 a1 ((l.take i).map t27) (by omega))
    rw [beadlelaw06_MergeAgain.l0]
    by_cases h : (i : Int) < (l.length : Int)
    · rw [if_pos h, if_neg (by omega)]
    · rw [if_neg h]
  | succ d ih =>
    intro i hi
    have hlt : i < l.length := by omega
    have e27 : (l.take (i + 1)).map t27 = (l.take i).map t27 ++ [t27 l[i]] := by rw [List.take_succ_eq_append_getElem hlt, List.map_append]; rfl
    have hgo := ih (i + 1) (by omega)
    rw [e27] at hgo
    have h1 : ((l.take i).map t27).length = i := by rw [List.length_map, List.length_take]; omega
    refine Ev.step (fun k => ?_) hgo
    rw [beadlelaw06_MergeAgain.l0, if_pos (by omega), if_pos (by omega), if_pos (by omega), if_pos (by rw [h1]; omega), rd23 hlt, w64 (by omega) (by omega)]
    rfl
theorem MergeAgain : beadlelaw06_MergeAgain.Ask := by
  intro l a1 _ _ _
  refine Ev.rounds (g := fun k => beadlelaw06_MergeAgain.f k l a1) ?_
  have h1 : merge_Name.f 4 = some ⟨#[117, 110, 101, 120, 112, 101, 99, 116, 101, 100, 45, 110, 117, 108, 108, 45, 99, 104, 97, 114, 97, 99, 116, 101, 114]⟩ := by rfl
  refine Ev.congr (fun k => ?_) (again_ev l a1 (min l.length 300) 0 (by omega))
  rw [beadlelaw06_MergeAgain.f, h1, Option.bind_some, if_pos ((bl _).trans rfl)]
  rfl
end Go.Proofs.Ytkkdpkfachpjeaa.Pure
