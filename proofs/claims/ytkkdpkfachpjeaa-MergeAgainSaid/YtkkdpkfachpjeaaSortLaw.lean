/- What merge.Sort returns is the one strictly rising list of the same members. -/
import Derived.Test.YtkkdpkfachpjeaaHSort
namespace Go.Proofs.Ytkkdpkfachpjeaa.Pure
open Go.Lib Go.RowKit Go.Proofs.Ytkkdpkfachpjeaa.PS Go.Proofs.Ytkkdpkfachpjeaa.OrdS

theorem asym {x y : S27} (h : lt27 x y = true) : lt27 y x = false := by
  cases e : lt27 y x with
  | false => rfl
  | true => have := lt27_trans h e; rw [lt27_irrefl] at this; cases this
theorem eq_of_not {x y : S27} (h1 : lt27 x y = false) (h2 : lt27 y x = false) : x = y := by
  rcases lt27_tri x y with h | h | h
  · rw [h] at h1; cases h1
  · exact h
  · rw [h] at h2; cases h2
abbrev Rise (l : List S27) : Prop := l.Pairwise fun x y => lt27 x y = true
theorem rise_unique : ∀ (a b : List S27), Rise a → Rise b → (∀ x, x ∈ a ↔ x ∈ b) → a = b
  | [], [], _, _, _ => rfl
  | [], y :: ys, _, _, h => absurd ((h y).2 (List.mem_cons_self ..)) (by simp)
  | x :: xs, [], _, _, h => absurd ((h x).1 (List.mem_cons_self ..)) (by simp)
  | x :: xs, y :: ys, ha, hb, h => by
    rw [Rise, List.pairwise_cons] at ha hb
    have hxy : x = y := by
      rcases List.mem_cons.1 ((h x).1 (List.mem_cons_self ..)) with h1 | h1
      · exact h1
      · rcases List.mem_cons.1 ((h y).2 (List.mem_cons_self ..)) with h2 | h2
        · exact h2.symm
        · have e1 := hb.1 x h1
          have e2 := ha.1 y h2
          rw [asym e1] at e2
          cases e2
    subst hxy
    congr 1
    refine rise_unique xs ys ha.2 hb.2 fun z => ⟨fun hz => ?_, fun hz => ?_⟩
    · rcases List.mem_cons.1 ((h z).1 (List.mem_cons_of_mem _ hz)) with h1 | h1
      · subst h1
        have := ha.1 z hz
        rw [lt27_irrefl] at this
        cases this
      · exact h1
    · rcases List.mem_cons.1 ((h z).2 (List.mem_cons_of_mem _ hz)) with h1 | h1
      · subst h1
        have := hb.1 z hz
        rw [lt27_irrefl] at this
        cases this
      · exact h1
theorem compact_mem (d : Array S27) (m : Nat) (x : S27) : x ∈ compactUpTo d m ↔ ∃ j, j < m ∧ d[j]! = x := by
  induction m with
  | zero => simp [compactUpTo]
  | succ m ih =>
    rw [compactUpTo_succ, List.mem_append, ih]
    constructor
    · rintro (⟨j, hj, h⟩ | h)
      · exact ⟨j, by omega, h⟩
      · split at h
        · rw [List.mem_singleton] at h
          exact ⟨m, by omega, h.symm⟩
        · cases h
    · rintro ⟨j, hj, h⟩
      by_cases e : j = m
      · subst e
        cases hk : keeps d j with
        | true => right; rw [if_pos rfl, List.mem_singleton]; exact h.symm
        | false =>
          left
          unfold keeps at hk
          have h2 := of_decide_eq_false hk
          have h0 : j ≠ 0 := fun e => h2 (.inl e)
          have h3 : d[j]! = d[j - 1]! := Classical.byContradiction fun hn => h2 (.inr hn)
          exact ⟨j - 1, by omega, by rw [← h3]; exact h⟩
      · exact .inl ⟨j, by omega, h⟩
theorem compact_rise (d : Array S27) (m : Nat) (hs : ∀ i j, i < j → j < m → lt27 d[j]! d[i]! = false) : Rise (compactUpTo d m) := by
  induction m with
  | zero => simp [compactUpTo, Rise]
  | succ m ih =>
    have ih' := ih (fun i j h1 h2 => hs i j h1 (by omega))
    rw [compactUpTo_succ]
    cases hk : keeps d m with
    | false => simpa using ih'
    | true =>
      rw [if_pos rfl, Rise, List.pairwise_append]
      refine ⟨ih', List.pairwise_singleton _ _, fun y hy z hz => ?_⟩
      rw [List.mem_singleton] at hz
      subst hz
      obtain ⟨i, hi, rfl⟩ := (compact_mem d m y).1 hy
      unfold keeps at hk
      have h2 : d[m]! ≠ d[m - 1]! := by
        rcases of_decide_eq_true hk with h | h
        · omega
        · exact h
      have hm := hs i m hi (by omega)
      rcases lt27_tri d[i]! d[m]! with h | h | h
      · exact h
      · exfalso
        have h3 := hs (m - 1) m (by omega) (by omega)
        by_cases e : i = m - 1
        · subst e; exact h2 h.symm
        · have h4 := hs i (m - 1) (by omega) (by omega)
          rw [h] at h4
          exact h2 (eq_of_not h3 h4)
      · rw [h] at hm; cases hm
theorem ms_mem (l : List S27) (x : S27) : x ∈ ms l ↔ x ∈ l := (List.mergeSort_perm l _).mem_iff
theorem ms_sorted (l : List S27) : ∀ i j, i < j → j < (ms l).length → lt27 (ms l).toArray[j]! (ms l).toArray[i]! = false := by
  have hp : (ms l).Pairwise (fun x y => (!(ltOf cmpD) y x) = true) := List.pairwise_mergeSort (fun a b c h1 h2 => by
    rw [ltOf_cmpD, Bool.not_eq_true'] at *
    cases e : lt27 c a with
    | false => rfl
    | true =>
      rcases lt27_tri a b with h | h | h
      · rw [lt27_trans e h] at h2; cases h2
      · subst h; rw [e] at h2; cases h2
      · rw [h] at h1; cases h1) (fun a b => by
    rw [ltOf_cmpD, ltOf_cmpD]
    cases e : lt27 b a with
    | false => rfl
    | true => rw [asym e]; rfl) l
  intro i j hij hj
  have := List.pairwise_iff_getElem.1 hp i j (by omega) hj hij
  rw [ltOf_cmpD, Bool.not_eq_true'] at this
  rw [get_of (ms l) j _ (List.getElem?_eq_getElem hj), get_of (ms l) i _ (List.getElem?_eq_getElem (by omega))]
  exact this
theorem sortD_rise (l : List S27) : Rise (sortD l) := compact_rise _ _ (ms_sorted l)
theorem sortD_mem (l : List S27) (x : S27) : x ∈ sortD l ↔ x ∈ l := by
  unfold sortD
  rw [compact_mem, ← ms_mem l x]
  constructor
  · rintro ⟨j, hj, h⟩
    rw [get_of (ms l) j _ (List.getElem?_eq_getElem hj)] at h
    subst h
    exact List.getElem_mem _
  · intro h
    obtain ⟨j, hj, rfl⟩ := List.getElem_of_mem h
    exact ⟨j, hj, get_of (ms l) j _ (List.getElem?_eq_getElem hj)⟩
theorem sortD_eq {l b : List S27} (hb : Rise b) (hm : ∀ x, x ∈ b ↔ x ∈ l) : sortD l = b := rise_unique _ _ (sortD_rise l) hb fun x => (sortD_mem l x).trans (hm x).symm
end Go.Proofs.Ytkkdpkfachpjeaa.Pure
