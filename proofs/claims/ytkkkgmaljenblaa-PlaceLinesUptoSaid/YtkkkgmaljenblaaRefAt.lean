/- The reference's line and column of any place among scalars whose places rise are those that the program's table tells. Conditions: those of each statement. -/
import Derived.Test.YtkkkgmaljenblaaLineCol
import Derived.Test.YtkkkgmaljenblaaPLx1
namespace Go.Proofs.Ytkkkgmaljenblaa.PL
open Go.RowKit Go.Proofs.YtkkkgmaljenblaaW.PrintWords Go.Proofs.YtkkkgmaljenblaaW.PrintLast Go.Proofs.YtkkkgmaljenblaaW.PrintMore

theorem below_lt (ps : List Int) (x : Int) (hs : ps.Pairwise (· < ·)) : ∀ i, i < ps.length → (ps.getD i 0 < x ↔ i < below ps x) := by
  induction ps with
  | nil => intro i hi; simp at hi
  | cons a r ih =>
    obtain ⟨ha, hr⟩ := List.pairwise_cons.1 hs
    intro i hi
    rw [below_cons]
    by_cases h : a < x
    · rw [if_pos h]
      cases i with
      | zero => simp [h]
      | succ i =>
        rw [List.getD_cons_succ, ih hr i (by simpa using hi)]
        omega
    · rw [if_neg h, below_zero r x (fun y hy => by have := ha y hy; omega)]
      cases i with
      | zero => simp; omega
      | succ i =>
        rw [List.getD_cons_succ]
        have hi' : i < r.length := by simpa using hi
        have : r.getD i 0 ∈ r := by
          rw [List.getD_eq_getElem?_getD, List.getElem?_eq_getElem hi']
          exact List.getElem_mem _
        have := ha _ this
        omega

/-- Line and column behind i scalars. -/
def st (ls : List Int) (i : Int) : Int × Int := if below ls i = 0 then (1, i + 1) else ((below ls i : Int) + 1, i - ls.getD (below ls i - 1) 0)
theorem st_line (ps ls : List Int) (x : Int) : lineCol ps ls x = st ls (below ps x : Int) := rfl
theorem st_in (ls : List Int) (i : Int) (hs : ls.Pairwise (· < ·)) (h : i ∈ ls) : st ls (i + 1) = ((st ls i).1 + 1, 1) := by
  obtain ⟨h1, h2⟩ := below_in ls i hs h
  unfold st
  rw [h1, if_neg (by omega), Nat.add_sub_cancel, h2]
  by_cases h0 : below ls i = 0
  · rw [if_pos h0]; simp [h0]; omega
  · rw [if_neg h0]; simp; omega
theorem st_out (ls : List Int) (i : Int) (h : i ∉ ls) : st ls (i + 1) = ((st ls i).1, (st ls i).2 + 1) := by
  unfold st
  rw [below_out ls i h]
  by_cases h0 : below ls i = 0
  · rw [if_pos h0, if_pos h0]
  · rw [if_neg h0, if_neg h0]
    simp; omega

theorem ref_loop (l : List S29) (ps ls : List Int) (x : Int) (hl : l.length = ps.length) (hn : l.length ≤ 1048576) (hp : ∀ i : Nat, i < l.length → (rd_T29 l (i : Int)).f1 = ps.getD i 0) (hq : ∀ i : Nat, i < l.length → ((rd_T29 l (i : Int)).f0 = 10 ↔ (i : Int) ∈ ls))
    (hs : ps.Pairwise (· < ·)) (hs' : ls.Pairwise (· < ·)) (hb : ∀ z ∈ ls, 0 ≤ z ∧ z ≤ 1048576) (hll : ls.length ≤ 1048576) (d : Nat) : ∀ (k : Nat) (i : Nat), i ≤ below ps x → i + d = l.length → 2 * d + 2 ≤ k →
    beadleref03_At.l0 k l x (st ls (i : Int)).1 (st ls (i : Int)).2 (i : Int) = some (st ls (below ps x : Int)) := by
  have bp := below_le ps x
  have hst : ∀ i : Nat, i ≤ l.length → -1048577 ≤ (st ls (i : Int)).1 ∧ (st ls (i : Int)).1 ≤ 1048577 ∧ -1048577 ≤ (st ls (i : Int)).2 ∧ (st ls (i : Int)).2 ≤ 1048577 := by
    intro i hi
    have b2 := below_le ls (i : Int)
    unfold st
    by_cases h0 : below ls (i : Int) = 0
    · rw [if_pos h0]; simp only; omega
    · rw [if_neg h0]
      have hz : ls.getD (below ls (i : Int) - 1) 0 ∈ ls := by
        rw [List.getD_eq_getElem?_getD, List.getElem?_eq_getElem (by omega)]
        exact List.getElem_mem _
      have := hb _ hz
      simp only
      omega
  induction d with
  | zero =>
    intro k i hi hd hk
    obtain ⟨k, rfl⟩ : ∃ m, k = m + 1 := ⟨k - 1, by omega⟩
    obtain ⟨k, rfl⟩ : ∃ m, k = m + 1 := ⟨k - 1, by omega⟩
    simp only [beadleref03_At.l0]
    rw [if_neg (by omega)]
    simp only [beadleref03_At.j1]
    rw [if_neg (by decide)]
    have : i = below ps x := by omega
    rw [← this]
  | succ d ih =>
    intro k i hi hd hk
    obtain ⟨k, rfl⟩ : ∃ m, k = m + 1 := ⟨k - 1, by omega⟩
    obtain ⟨k, rfl⟩ : ∃ m, k = m + 1 := ⟨k - 1, by omega⟩
    have hil : i < l.length := by omega
    simp only [beadleref03_At.l0]
    rw [if_pos (by omega), if_pos (by omega)]
    simp only [beadleref03_At.j1]
    have hlt := below_lt ps x hs i (by omega)
    rw [← hp i hil] at hlt
    by_cases h : (rd_T29 l (i : Int)).f1 < x
    · rw [if_pos (by simp [h]), if_pos (by omega), if_pos (by omega)]
      have w1 : wrap64 ((i : Int) + 1) = ((i + 1 : Nat) : Int) := by unfold wrap64; omega
      obtain ⟨s1, s2, s3, s4⟩ := hst i (by omega)
      by_cases h10 : (rd_T29 l (i : Int)).f0 = 10
      · rw [if_pos h10, w1]
        have e := st_in ls (i : Int) hs' ((hq i hil).1 h10)
        have w2 : wrap64 ((st ls (i : Int)).1 + 1) = (st ls ((i + 1 : Nat) : Int)).1 := by
          rw [Int.natCast_add, Int.natCast_one, e]; unfold wrap64; simp only; omega
        have w3 : (1 : Int) = (st ls ((i + 1 : Nat) : Int)).2 := by rw [Int.natCast_add, Int.natCast_one, e]
        rw [w2]
        have := ih k (i + 1) (by have := hlt.1 h; omega) (by omega) (by omega)
        rw [← w3] at this
        exact this
      · rw [if_neg h10, w1]
        have e := st_out ls (i : Int) (fun hh => h10 ((hq i hil).2 hh))
        have w2 : wrap64 ((st ls (i : Int)).2 + 1) = (st ls ((i + 1 : Nat) : Int)).2 := by
          rw [Int.natCast_add, Int.natCast_one, e]; unfold wrap64; simp only; omega
        have w3 : (st ls (i : Int)).1 = (st ls ((i + 1 : Nat) : Int)).1 := by rw [Int.natCast_add, Int.natCast_one, e]
        rw [w2, w3]
        exact ih k (i + 1) (by have := hlt.1 h; omega) (by omega) (by omega)
    · rw [if_neg (by simp [h])]
      have : i = below ps x := by have := fun hh => h (hlt.2 hh); omega
      rw [← this]
end Go.Proofs.Ytkkkgmaljenblaa.PL
