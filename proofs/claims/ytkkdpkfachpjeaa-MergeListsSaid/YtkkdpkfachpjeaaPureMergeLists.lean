/- MergeLists, the plain law: any rows of Diags, each sorted, merged, are the document's sorted row of all of them. -/
import Derived.Test.YtkkdpkfachpjeaaAskMergeLists
import Derived.Test.YtkkdpkfachpjeaaPureMergeSorts
namespace Go.Proofs.Ytkkdpkfachpjeaa.Pure
open Go.Lib Go.RowKit Go.Proofs.Ytkkdpkfachpjeaa.PS Go.Proofs.Ytkkdpkfachpjeaa.OrdS Go.Proofs.YtkkdpkfachpjeaaW.PrintWords Go.Proofs.YtkkdpkfachpjeaaW.PrintLast

theorem rdL7 {l : List (List S23)} {i : Nat} (h : i < l.length) : rd_L7 l (i : Int) = l[i] := by
  unfold rd_L7
  rw [Int.toNat_natCast, List.getD_eq_getElem?_getD, List.getElem?_eq_getElem h]
  rfl
def inL (ls : List (List S23)) : List (List S27) := ls.map fun l => sortD ((l.take 2000).map t27)
def allL (ls : List (List S23)) : List S29 := ls.flatMap fun l => (l.take 2000).map t29
theorem inL_len (ls : List (List S23)) : (inL ls).length = ls.length := by simp [inL]
theorem inL_rise (ls : List (List S23)) : ∀ l ∈ inL ls, Rise l := by
  intro l hl
  obtain ⟨x, _, rfl⟩ := List.mem_map.1 hl
  exact sortD_rise _
theorem inL_size (ls : List (List S23)) : Mrg.size (inL ls) ≤ (allL ls).length := by
  induction ls with
  | nil => exact Nat.le_refl _
  | cons l ls ih =>
    show Mrg.size (sortD ((l.take 2000).map t27) :: inL ls) ≤ ((l.take 2000).map t29 ++ allL ls).length
    rw [Mrg.size_cons, List.length_append, List.length_map]
    have := sortD_len ((l.take 2000).map t27)
    rw [List.length_map] at this
    omega
theorem mem_L (ls : List (List S23)) (x : S29) : u27 x ∈ (inL ls).flatten ↔ x ∈ allL ls := by
  unfold inL allL
  rw [List.mem_flatten, List.mem_flatMap]
  constructor
  · rintro ⟨l, hl, hx⟩
    obtain ⟨y, hy, rfl⟩ := List.mem_map.1 hl
    rw [sortD_mem] at hx
    obtain ⟨z, hz, e⟩ := List.mem_map.1 hx
    exact ⟨y, hy, List.mem_map.2 ⟨z, hz, u27_inj e⟩⟩
  · rintro ⟨y, hy, hx⟩
    refine ⟨_, List.mem_map.2 ⟨y, hy, rfl⟩, ?_⟩
    rw [sortD_mem]
    obtain ⟨z, hz, e⟩ := List.mem_map.1 hx
    exact List.mem_map.2 ⟨z, hz, by rw [← e]⟩
theorem merge_f (ls : List (List S27)) (h1 : ∀ l ∈ ls, Rise l) (h2 : ls.length ≤ 1000000) (h3 : Mrg.size ls ≤ 1000000000) : merge_Merge.f ls = some (sortD ls.flatten) := by
  unfold merge_Merge.f
  rw [if_pos ⟨List.all_eq_true.2 (fun l hl => decide_eq_true (h1 l hl)), h2, h3⟩]
/-- Where the lists end. -/
theorem lists_end (x0 ls : List (List S23)) (h1 : ls.length ≤ 100) (h2 : (allL ls).length ≤ 100000) (i : Int) : Ev (fun k => beadlelaw06_MergeLists.j1 k x0 (inL ls) (allL ls) i false) true := by
  have hm := merge_f (inL ls) (inL_rise ls) (by rw [inL_len]; omega) (by have := inL_size ls; omega)
  have hv : Rise29 ((sortD (inL ls).flatten).map w29) := by
    show Rise (((sortD (inL ls).flatten).map w29).map u27)
    rw [there27]
    exact sortD_rise _
  have hvm : ∀ x, x ∈ (sortD (inL ls).flatten).map w29 ↔ x ∈ allL ls := fun x => by
    rw [← mem_L, List.mem_map]
    constructor
    · rintro ⟨y, hy, rfl⟩
      exact (sortD_mem _ y).1 hy
    · intro hx
      exact ⟨u27 x, (sortD_mem _ _).2 hx, rfl⟩
  have href : Ev (fun k => beadleref06_Sort.f k (allL ls)) ((sortD (inL ls).flatten).map w29) := ref_ev (allL ls) _ h2 hv hvm (allL ls).length 0 [] (by omega) List.Pairwise.nil (Nat.le_refl _) (fun x => by simp)
  have hlen : (sortD (inL ls).flatten).length ≤ 100000 := by
    have e1 := sortD_len (inL ls).flatten
    have e2 : (inL ls).flatten.length = Mrg.size (inL ls) := List.length_flatten
    have e3 := inL_size ls
    omega
  have hsame := same_f (sortD (inL ls).flatten) ((sortD (inL ls).flatten).map w29) (there27 _) hlen
  refine Ev.step (f := fun k => (beadleref06_Sort.f k (allL ls)).bind fun t228 => ((beadlelaw06_same.f k (sortD (inL ls).flatten) t228).bind fun t231 => (some t231))) (fun k => ?_) (Ev.bind href (Ev.bind hsame (Ev.now _)))
  rw [beadlelaw06_MergeLists.j1, if_neg (by decide), hm, Option.bind_some]
theorem lists_ev (x0 : List (List S23)) (d : Nat) : ∀ i, i + d = min x0.length 100 → (allL (x0.take i)).length ≤ 4000 → Ev (fun k => beadlelaw06_MergeLists.l0 k x0 (inL (x0.take i)) (allL (x0.take i)) (i : Int)) true := by
  induction d with
  | zero =>
    intro i hi ha
    have hend := lists_end x0 (x0.take i) (by rw [List.length_take]; omega) (by omega) (i : Int)
    refine Ev.step (fun k => ?_) hend
    rw [beadlelaw06_MergeLists.l0]
    by_cases h : (i : Int) < (x0.length : Int)
    · rw [if_pos h, if_neg (by omega)]
    · rw [if_neg h]
  | succ d ih =>
    intro i hi ha
    have hlt : i < x0.length := by omega
    by_cases hfull : (allL (x0.take i)).length < 2000
    · have etk : x0.take (i + 1) = x0.take i ++ [x0[i]] := List.take_succ_eq_append_getElem hlt
      have e1 : inL (x0.take (i + 1)) = inL (x0.take i) ++ [sortD ((x0[i].take 2000).map t27)] := by rw [etk]; unfold inL; rw [List.map_append]; rfl
      have e2 : allL (x0.take (i + 1)) = allL (x0.take i) ++ (x0[i].take 2000).map t29 := by rw [etk]; unfold allL; rw [List.flatMap_append]; simp
      have hl2 : ((x0[i].take 2000).map t29).length ≤ 2000 := by rw [List.length_map, List.length_take]; omega
      have hl1 : ((x0[i].take 2000).map t27).length ≤ 2000 := by rw [List.length_map, List.length_take]; omega
      have hgo := ih (i + 1) (by omega) (by rw [e2, List.length_append]; omega)
      rw [e1, e2] at hgo
      have hsort : merge_Sort.f ((x0[i].take 2000).map t27) = some (sortD ((x0[i].take 2000).map t27)) := by
        unfold merge_Sort.f
        rw [if_pos (by omega)]
      have hin : (inL (x0.take i)).length ≤ 100 := by rw [inL_len, List.length_take]; omega
      refine Ev.step (f := fun k => beadlelaw06_MergeLists.j1 k x0 (inL (x0.take i)) (allL (x0.take i)) (i : Int) true) (fun k => ?_) ?_
      · rw [beadlelaw06_MergeLists.l0, if_pos (by omega), if_pos (by omega), decide_eq_true (by omega)]
      · refine Ev.step (f := fun k => (beadlelaw06_made.f k x0[i]).bind fun bt210 => ((merge_Sort.f bt210.1).bind fun t216 => (if (inL (x0.take i)).length < 5864062014805 then (if (allL (x0.take i)).length + bt210.2.length < 4398046511104 then (beadlelaw06_MergeLists.l0 k x0 (inL (x0.take i) ++ [t216]) (allL (x0.take i) ++ bt210.2) (wrap64 ((i : Int) + 1))) else (none)) else (none)))) (fun k => ?_) ?_
        · rw [beadlelaw06_MergeLists.j1, if_pos rfl, if_pos (by omega), if_pos (by omega), rdL7 hlt]
        · refine Ev.bind (made_ev x0[i] (min x0[i].length 2000) 0 (by omega)) ?_
          simp only [hsort, Option.bind_some]
          refine Ev.congr (f := fun k => beadlelaw06_MergeLists.l0 k x0 (inL (x0.take i) ++ [sortD ((x0[i].take 2000).map t27)]) (allL (x0.take i) ++ (x0[i].take 2000).map t29) ((i + 1 : Nat) : Int)) (fun k => ?_) hgo
          rw [if_pos (by omega), if_pos (by omega), w64 (by omega) (by omega)]
          rfl
    · have hend := lists_end x0 (x0.take i) (by rw [List.length_take]; omega) (by omega) (i : Int)
      refine Ev.step (fun k => ?_) hend
      rw [beadlelaw06_MergeLists.l0, if_pos (by omega), if_pos (by omega), decide_eq_false (by omega)]
theorem MergeLists : beadlelaw06_MergeLists.Ask := by
  intro l _ _
  refine Ev.rounds (g := fun k => beadlelaw06_MergeLists.f k l) ?_
  have h1 : merge_Merge.f (([([(⟨0, 1, (⟨#[]⟩ : ByteArray)⟩ : S27)] : List (S27)), ([(⟨0, 1, (⟨#[]⟩ : ByteArray)⟩ : S27), (⟨0, 2, (⟨#[]⟩ : ByteArray)⟩ : S27)] : List (S27))] : List (List (S27)))) = some [⟨0, 1, ⟨#[]⟩⟩, ⟨0, 2, ⟨#[]⟩⟩] := by
    have hlt : lt27 ⟨0, 1, ⟨#[]⟩⟩ ⟨0, 2, ⟨#[]⟩⟩ = true := by decide +kernel
    have hr : Rise [(⟨0, 1, ⟨#[]⟩⟩ : S27), ⟨0, 2, ⟨#[]⟩⟩] := List.Pairwise.cons (fun y hy => by rw [List.mem_singleton] at hy; rw [hy]; exact hlt) (List.pairwise_singleton _ _)
    rw [merge_f _ (fun x hx => by
      rcases List.mem_cons.1 hx with e | hx
      · rw [e]; exact List.pairwise_singleton _ _
      · rw [List.mem_singleton] at hx; rw [hx]; exact hr) (by decide) (by decide), sortD_eq hr (fun x => by simp)]
  have hgo := lists_ev l (min l.length 100) 0 (by omega) (by simp [allL])
  refine Ev.congr (fun k => ?_) hgo
  rw [beadlelaw06_MergeLists.f, h1, Option.bind_some, if_pos (by decide)]
  rfl
end Go.Proofs.Ytkkdpkfachpjeaa.Pure
