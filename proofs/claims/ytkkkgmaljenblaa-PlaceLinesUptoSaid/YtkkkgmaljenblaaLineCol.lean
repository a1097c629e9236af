/- The plain law of lines and columns: going on by one, the column grows by one, or a new line begins; in between nothing changes. Conditions: the two lists rise. -/
import Derived.Test.YtkkkgmaljenblaaHAt
namespace Go.Proofs.Ytkkkgmaljenblaa.PL
open Go.RowKit Go.Proofs.YtkkkgmaljenblaaW.PrintWords Go.Proofs.YtkkkgmaljenblaaW.PrintLast Go.Proofs.YtkkkgmaljenblaaW.PrintMore

theorem below_nil (x : Int) : below [] x = 0 := rfl
theorem below_cons (a : Int) (r : List Int) (x : Int) : below (a :: r) x = below r x + (if a < x then 1 else 0) := by
  unfold below
  rw [List.countP_cons]
  by_cases h : a < x
  · have h2 : ¬ x ≤ a := by omega
    simp [h, h2]
  · have h2 : x ≤ a := by omega
    simp [h, h2]
theorem below_out (xs : List Int) (x : Int) (h : x ∉ xs) : below xs (x + 1) = below xs x := by
  induction xs with
  | nil => rfl
  | cons a r ih =>
    have h1 : x ≠ a := fun e => h (by simp [e])
    have h2 : x ∉ r := fun e => h (by simp [e])
    rw [below_cons, below_cons, ih h2]
    by_cases h3 : a < x
    · rw [if_pos h3, if_pos (by omega)]
    · rw [if_neg h3, if_neg (by omega)]
theorem below_zero (xs : List Int) (x : Int) (h : ∀ y ∈ xs, x ≤ y) : below xs x = 0 := by
  induction xs with
  | nil => rfl
  | cons a r ih =>
    rw [below_cons, ih (fun y hy => h y (by simp [hy])), if_neg (by have := h a (by simp); omega)]
theorem below_in (xs : List Int) (x : Int) (hs : xs.Pairwise (· < ·)) (h : x ∈ xs) : below xs (x + 1) = below xs x + 1 ∧ xs.getD (below xs x) 0 = x := by
  induction xs with
  | nil => cases h
  | cons a r ih =>
    obtain ⟨ha, hr⟩ := List.pairwise_cons.1 hs
    rw [below_cons, below_cons]
    by_cases e : x = a
    · subst e
      rw [if_pos (by omega), if_neg (by omega), below_out r x (fun hx => by have := ha x hx; omega), below_zero r x (fun y hy => by have := ha y hy; omega)]
      simp
    · have hx : x ∈ r := by
        rcases List.mem_cons.1 h with h | h
        · exact absurd h e
        · exact h
      obtain ⟨h1, h2⟩ := ih hr hx
      have hlt := ha x hx
      rw [if_pos (by omega), if_pos (by omega), h1]
      refine ⟨rfl, ?_⟩
      rw [List.getD_cons_succ]
      exact h2

theorem line_out (ps ls : List Int) (y : Int) (h : y ∉ ps) : lineCol ps ls (y + 1) = lineCol ps ls y := by
  unfold lineCol
  rw [below_out ps y h]
theorem line_in (ps ls : List Int) (y : Int) (hs : ps.Pairwise (· < ·)) (hs' : ls.Pairwise (· < ·)) (h : y ∈ ps) :
    ((lineCol ps ls (y + 1)).1 = (lineCol ps ls y).1 ∧ (lineCol ps ls (y + 1)).2 = (lineCol ps ls y).2 + 1) ∨ ((lineCol ps ls (y + 1)).1 = (lineCol ps ls y).1 + 1 ∧ (lineCol ps ls (y + 1)).2 = 1) := by
  unfold lineCol
  rw [(below_in ps y hs h).1]
  have e : ((below ps y + 1 : Nat) : Int) = (below ps y : Int) + 1 := by omega
  rw [e]
  by_cases hn : (below ps y : Int) ∈ ls
  · obtain ⟨h1, h2⟩ := below_in ls _ hs' hn
    refine .inr ?_
    rw [h1, if_neg (by omega), Nat.add_sub_cancel, h2]
    by_cases h0 : below ls (below ps y : Int) = 0
    · rw [if_pos h0]; simp [h0]; try omega
    · rw [if_neg h0]; simp; try omega
  · rw [below_out ls _ hn]
    refine .inl ?_
    by_cases h0 : below ls (below ps y : Int) = 0
    · rw [if_pos h0, if_pos h0]
      exact ⟨rfl, rfl⟩
    · rw [if_neg h0, if_neg h0]
      refine ⟨rfl, ?_⟩
      show (_ : Int) + 1 - _ = _ - _ + 1
      omega
theorem pw_le {xs : List Int} (h : xs.Pairwise (· < ·)) : xs.Pairwise (· ≤ ·) := h.imp (fun h => by omega)
end Go.Proofs.Ytkkkgmaljenblaa.PL
