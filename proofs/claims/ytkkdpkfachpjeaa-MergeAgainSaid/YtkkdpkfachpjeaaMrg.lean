/- Merging rising lists by a heap of what is left of them: what one round keeps, and where it ends. Plain: no program in sight. Conditions: those of each statement. -/
import Derived.Test.YtkkdpkfachpjeaaSortLaw
import Derived.Test.YtkkdpkfachpjeaaHeap
namespace Go.Proofs.Ytkkdpkfachpjeaa.Mrg
open Go.Lib Go.RowKit Go.Proofs.Ytkkdpkfachpjeaa.PS Go.Proofs.Ytkkdpkfachpjeaa.OrdS Go.Proofs.Ytkkdpkfachpjeaa.Pure Go.Proofs.Ytkkdpkfachpjeaa.Heap

def hd (l : List S27) : S27 := l.getD 0 z27
def L (a b : List S27) : Bool := lt27 (hd a) (hd b)
/-- Not behind. -/
def leD (x y : S27) : Prop := lt27 y x = false
theorem leD_refl (x : S27) : leD x x := lt27_irrefl x
theorem leD_trans {x y z : S27} (h1 : leD x y) (h2 : leD y z) : leD x z := by
  unfold leD at *
  cases e : lt27 z x with
  | false => rfl
  | true =>
    rcases lt27_tri x y with h | h | h
    · rw [lt27_trans e h] at h2; cases h2
    · subst h; rw [e] at h2; cases h2
    · rw [h] at h1; cases h1
theorem leD_of_lt {x y : S27} (h : lt27 x y = true) : leD x y := asym h
theorem lt_of_leD {x y : S27} (h : leD x y) (hne : x ≠ y) : lt27 x y = true := by
  rcases lt27_tri x y with h1 | h1 | h1
  · exact h1
  · exact absurd h1 hne
  · unfold leD at h; rw [h1] at h; cases h
theorem ordL : Ord L := ⟨fun _ => lt27_irrefl _, fun _ _ h => asym h, fun a b c h1 h2 => leD_trans (x := hd a) (y := hd b) (z := hd c) h1 h2⟩
theorem hd_mem {l : List S27} (h : l ≠ []) : hd l ∈ l := by
  cases l with
  | nil => exact absurd rfl h
  | cons x xs => exact List.mem_cons_self ..
theorem rise_hd {l : List S27} (h : Rise l) (x : S27) (hx : x ∈ l) : leD (hd l) x := by
  cases l with
  | nil => cases hx
  | cons y ys =>
    rcases List.mem_cons.1 hx with e | hx
    · rw [e]; exact leD_refl _
    · exact leD_of_lt ((List.pairwise_cons.1 h).1 x hx)
/-- Between two rounds: what is told, what is left. -/
structure Inv (all out : List S27) (ls : List (List S27)) : Prop where
  rise : Rise out
  ahead : ∀ x ∈ out, ∀ l ∈ ls, ∀ y ∈ l, leD x y
  mem : ∀ x, x ∈ all ↔ x ∈ out ∨ ∃ l ∈ ls, x ∈ l
  left : ∀ l ∈ ls, l ≠ [] ∧ Rise l
def size (ls : List (List S27)) : Nat := (ls.map List.length).sum
theorem size_perm {a b : List (List S27)} (h : a.Perm b) : size a = size b := List.Perm.sum_nat (h.map _)
theorem size_cons (l : List S27) (ls : List (List S27)) : size (l :: ls) = l.length + size ls := by simp [size]
theorem size_app (a b : List (List S27)) : size (a ++ b) = size a + size b := by simp [size]
theorem size_one (l : List S27) : size [l] = l.length := by simp [size]
theorem Inv.perm {all out : List S27} {a b : List (List S27)} (h : Inv all out a) (hp : b.Perm a) : Inv all out b :=
  ⟨h.rise, fun x hx l hl => h.ahead x hx l (hp.mem_iff.1 hl), fun x => by
    rw [h.mem x]
    exact or_congr Iff.rfl ⟨fun ⟨l, hl, hx⟩ => ⟨l, hp.mem_iff.2 hl, hx⟩, fun ⟨l, hl, hx⟩ => ⟨l, hp.mem_iff.1 hl, hx⟩⟩, fun l hl => h.left l (hp.mem_iff.1 hl)⟩
/-- What is told behind a round. -/
def tell (out : List S27) (y : S27) : List S27 := if out = [] then out ++ [y] else if out.getLast? = some y then out else out ++ [y]
theorem Inv.tell {all out : List S27} {l : List S27} {ls : List (List S27)} (h : Inv all out (l :: ls)) (hmin : ∀ k ∈ ls, leD (hd l) (hd k)) : Inv all (Mrg.tell out (hd l)) (if l.length = 1 then ls else l.tail :: ls) := by
  obtain ⟨hne, hr⟩ := h.left l (List.mem_cons_self ..)
  obtain ⟨y, t, rfl⟩ : ∃ y t, l = y :: t := by
    cases l with
    | nil => exact absurd rfl hne
    | cons y t => exact ⟨y, t, rfl⟩
  have hy : hd (y :: t) = y := rfl
  rw [hy] at hmin ⊢
  have hyall : ∀ k ∈ (y :: t) :: ls, ∀ z ∈ k, leD y z := by
    intro k hk z hz
    rcases List.mem_cons.1 hk with e | hk
    · subst e; exact rise_hd hr z hz
    · exact leD_trans (hmin k hk) (rise_hd (h.left k (List.mem_cons_of_mem _ hk)).2 z hz)
  have houty : ∀ x ∈ out, leD x y := fun x hx => h.ahead x hx _ (List.mem_cons_self ..) y (List.mem_cons_self ..)
  -- the members of what is told
  have hmem : ∀ x, x ∈ Mrg.tell out y ↔ x ∈ out ∨ x = y := by
    intro x
    unfold Mrg.tell
    by_cases h0 : out = []
    · rw [if_pos h0, h0]; simp
    · rw [if_neg h0]
      by_cases h1 : out.getLast? = some y
      · rw [if_pos h1]
        refine ⟨Or.inl, fun hx => ?_⟩
        rcases hx with hx | hx
        · exact hx
        · rw [hx]; exact List.mem_of_getLast? h1
      · rw [if_neg h1]; simp
  have hrise : Rise (Mrg.tell out y) := by
    unfold Mrg.tell
    by_cases h0 : out = []
    · rw [if_pos h0, h0]; exact List.pairwise_singleton _ _
    · rw [if_neg h0]
      by_cases h1 : out.getLast? = some y
      · rw [if_pos h1]; exact h.rise
      · rw [if_neg h1, Rise, List.pairwise_append]
        refine ⟨h.rise, List.pairwise_singleton _ _, fun x hx z hz => ?_⟩
        rw [List.mem_singleton] at hz
        subst hz
        obtain ⟨i, hi, e⟩ := List.getElem_of_mem hx
        have hl1 : out.getLast? = some out[out.length - 1] := by rw [List.getLast?_eq_getElem?, List.getElem?_eq_getElem (by omega)]
        have hne1 : out[out.length - 1] ≠ z := fun e2 => h1 (by rw [hl1, e2])
        have hll := lt_of_leD (houty _ (List.getElem_mem (by omega : out.length - 1 < out.length))) hne1
        by_cases e2 : i = out.length - 1
        · rw [← e]; subst e2; exact hll
        · have := List.pairwise_iff_getElem.1 h.rise i (out.length - 1) hi (by omega) (by omega)
          rw [e] at this
          exact lt27_trans this hll
  have hnew : ∀ k, k ∈ (if (y :: t).length = 1 then ls else (y :: t).tail :: ls) ↔ (k = t ∧ t ≠ []) ∨ k ∈ ls := by
    intro k
    by_cases e : (y :: t).length = 1
    · rw [if_pos e]
      have ht : t = [] := List.eq_nil_of_length_eq_zero (by simpa using e)
      exact ⟨Or.inr, fun hk => hk.elim (fun hk => absurd ht hk.2) id⟩
    · rw [if_neg e, List.tail_cons, List.mem_cons]
      have ht : t ≠ [] := fun e2 => e (by rw [e2]; rfl)
      exact ⟨fun hk => hk.elim (fun hk => .inl ⟨hk, ht⟩) .inr, fun hk => hk.elim (fun hk => .inl hk.1) .inr⟩
  refine ⟨hrise, fun x hx k hk z hz => ?_, fun x => ?_, fun k hk => ?_⟩
  · have hz' : ∃ k' ∈ (y :: t) :: ls, z ∈ k' := by
      rcases (hnew k).1 hk with hk | hk
      · exact ⟨_, List.mem_cons_self .., by rw [hk.1] at hz; exact List.mem_cons_of_mem _ hz⟩
      · exact ⟨k, List.mem_cons_of_mem _ hk, hz⟩
    obtain ⟨k', hk', hz'⟩ := hz'
    rcases (hmem x).1 hx with hx | hx
    · exact h.ahead x hx k' hk' z hz'
    · rw [hx]; exact hyall k' hk' z hz'
  · rw [h.mem x, hmem x]
    constructor
    · rintro (hx | ⟨k, hk, hx⟩)
      · exact .inl (.inl hx)
      · rcases List.mem_cons.1 hk with e | hk
        · subst e
          rcases List.mem_cons.1 hx with e | hx
          · exact .inl (.inr e)
          · exact .inr ⟨t, (hnew t).2 (.inl ⟨rfl, fun e => by rw [e] at hx; cases hx⟩), hx⟩
        · exact .inr ⟨k, (hnew k).2 (.inr hk), hx⟩
    · rintro ((hx | hx) | ⟨k, hk, hx⟩)
      · exact .inl hx
      · exact .inr ⟨_, List.mem_cons_self .., by rw [hx]; exact List.mem_cons_self ..⟩
      · rcases (hnew k).1 hk with hk | hk
        · exact .inr ⟨_, List.mem_cons_self .., by rw [hk.1] at hx; exact List.mem_cons_of_mem _ hx⟩
        · exact .inr ⟨k, List.mem_cons_of_mem _ hk, hx⟩
  · rcases (hnew k).1 hk with ⟨hk, ht⟩ | hk
    · exact ⟨by rw [hk]; exact ht, by rw [hk]; exact (List.pairwise_cons.1 hr).2⟩
    · exact h.left k (List.mem_cons_of_mem _ hk)
theorem Inv.done {all out : List S27} (h : Inv all out []) : out = sortD all := (sortD_eq h.rise (fun x => by rw [h.mem x]; simp)).symm
theorem Inv.start (ls : List (List S27)) (hr : ∀ l ∈ ls, Rise l) : Inv ls.flatten [] (ls.filter fun l => !l.isEmpty) := by
  refine ⟨List.Pairwise.nil, (fun x hx => by cases hx), fun x => ?_, fun l hl => ?_⟩
  · rw [List.mem_flatten]
    constructor
    · rintro ⟨l, hl, hx⟩
      refine .inr ⟨l, List.mem_filter.2 ⟨hl, ?_⟩, hx⟩
      cases l with
      | nil => cases hx
      | cons y t => rfl
    · rintro (hx | ⟨l, hl, hx⟩)
      · cases hx
      · exact ⟨l, (List.mem_filter.1 hl).1, hx⟩
  · obtain ⟨h1, h2⟩ := List.mem_filter.1 hl
    refine ⟨fun e => ?_, hr l h1⟩
    rw [e] at h2
    cases h2
end Go.Proofs.Ytkkdpkfachpjeaa.Mrg
