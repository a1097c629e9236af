/- The grid of LaySpec, as places: what is covered behind a block, and whether a block lies over another. No program in sight. -/
import Derived.Test.YtdekcbpngbgjmaaLaySpec
namespace Go.Proofs.Ytdekcbpngbgjmaa.PC
open Go.RowKit Go.Proofs.YtdekcbpngbgjmaaW.PrintWords Go.Proofs.YtdekcbpngbgjmaaW.PrintLast Go.Proofs.YtdekcbpngbgjmaaW.PrintMore

theorem getD_set {α : Type} (l : List α) (i j : Nat) (a d : α) (hi : i < l.length) : (l.set i a).getD j d = if j = i then a else l.getD j d := by
  rw [List.getD_eq_getElem?_getD, List.getElem?_set]
  by_cases h : i = j
  · subst h
    simp [hi]
  · rw [if_neg h, if_neg (fun e => h e.symm), List.getD_eq_getElem?_getD]
theorem setRow_at (l : List Bool) (c j : Nat) : (setRow l c).getD j false = if j = c then true else l.getD j false := by
  unfold setRow
  rw [getD_set _ _ _ _ _ (by simp; omega)]
  split
  · rfl
  · rw [List.getD_eq_getElem?_getD, List.getD_eq_getElem?_getD, List.getElem?_append]
    split
    · rfl
    · rename_i h
      rw [List.getElem?_replicate, List.getElem?_eq_none (by omega)]
      split <;> rfl
theorem setG_len (gs : List (List Bool)) (r c : Nat) : (setG gs r c).length = gs.length := by simp [setG]
theorem covAt_setG (gs : List (List Bool)) (r c r' c' : Nat) (hr : r < gs.length) : covAt (setG gs r c) r' c' = if r' = r ∧ c' = c then true else covAt gs r' c' := by
  unfold covAt setG
  rw [getD_set _ _ _ _ _ hr]
  by_cases h : r' = r
  · subst h
    rw [if_pos rfl, setRow_at]
    by_cases h2 : c' = c
    · simp [h2]
    · simp [h2]
  · simp [h]
theorem blkRow_cov (gs : List (List Bool)) (ov : Bool) (r c : Nat) (hr : r < gs.length) (k : Nat) : (blkRow gs ov r c k).1.length = gs.length ∧ (∀ r' c', covAt (blkRow gs ov r c k).1 r' c' = if r' = r ∧ c ≤ c' ∧ c' < c + k then true else covAt gs r' c') ∧ ((blkRow gs ov r c k).2 = true ↔ ov = true ∨ ∃ i, i < k ∧ covAt gs r (c + i) = true) := by
  induction k with
  | zero =>
    refine ⟨rfl, fun r' c' => ?_, ?_⟩
    · rw [if_neg (by omega)]
      rfl
    · simp [blkRow]
  | succ k ih =>
    obtain ⟨h1, h2, h3⟩ := ih
    refine ⟨by simp [blkRow, setG_len, h1], fun r' c' => ?_, ?_⟩
    · rw [blkRow, covAt_setG _ _ _ _ _ (by omega), h2]
      by_cases e : r' = r ∧ c ≤ c' ∧ c' < c + (k + 1)
      · rw [if_pos e]
        split
        · rfl
        · rw [if_pos (by omega)]
      · rw [if_neg e, if_neg (by omega), if_neg (by omega)]
    · rw [blkRow]
      simp only [Bool.or_eq_true]
      rw [h3, h2, if_neg (by omega)]
      constructor
      · rintro ((h | ⟨i, hi, hc⟩) | h)
        · exact .inl h
        · exact .inr ⟨i, by omega, hc⟩
        · exact .inr ⟨k, by omega, h⟩
      · rintro (h | ⟨i, hi, hc⟩)
        · exact .inl (.inl h)
        · by_cases e : i = k
          · subst e
            exact .inr hc
          · exact .inl (.inr ⟨i, by omega, hc⟩)
theorem blk_cov (gs : List (List Bool)) (r c w : Nat) (k : Nat) (hr : r + k ≤ gs.length) : (blk gs false r c w k).1.length = gs.length ∧ (∀ r' c', covAt (blk gs false r c w k).1 r' c' = if r ≤ r' ∧ r' < r + k ∧ c ≤ c' ∧ c' < c + w then true else covAt gs r' c') ∧ ((blk gs false r c w k).2 = true ↔ ∃ i j, i < k ∧ j < w ∧ covAt gs (r + i) (c + j) = true) := by
  induction k with
  | zero =>
    refine ⟨rfl, fun r' c' => ?_, ?_⟩
    · rw [if_neg (by omega)]
      rfl
    · simp [blk]
  | succ k ih =>
    obtain ⟨h1, h2, h3⟩ := ih (by omega)
    obtain ⟨g1, g2, g3⟩ := blkRow_cov (blk gs false r c w k).1 (blk gs false r c w k).2 (r + k) c (by omega) w
    refine ⟨by rw [blk, g1, h1], fun r' c' => ?_, ?_⟩
    · rw [blk, g2, h2]
      by_cases e : r ≤ r' ∧ r' < r + (k + 1) ∧ c ≤ c' ∧ c' < c + w
      · rw [if_pos e]
        split
        · rfl
        · rw [if_pos (by omega)]
      · rw [if_neg e, if_neg (by omega), if_neg (by omega)]
    · rw [blk, g3, h3]
      constructor
      · rintro (⟨i, j, hi, hj, hc⟩ | ⟨j, hj, hc⟩)
        · exact ⟨i, j, by omega, hj, hc⟩
        · rw [h2, if_neg (by omega)] at hc
          exact ⟨k, j, by omega, hj, hc⟩
      · rintro ⟨i, j, hi, hj, hc⟩
        by_cases e : i = k
        · subst e
          refine .inr ⟨j, hj, ?_⟩
          rw [h2, if_neg (by omega)]
          exact hc
        · exact .inl ⟨i, j, by omega, hj, hc⟩
theorem findG_hop {gs : List (List Bool)} {r c : Nat} (h : covAt gs r c = true) : findG gs r (c + 1) = findG gs r c ∧ c < findG gs r c := by
  unfold covAt at h
  unfold findG
  have hc : c < (gs.getD r []).length := by
    apply Decidable.byContradiction
    intro hn
    rw [List.getD_eq_getElem?_getD, List.getElem?_eq_none (by omega)] at h
    simp at h
  rw [List.getD_eq_getElem?_getD, List.getElem?_eq_getElem hc] at h
  rw [List.drop_eq_getElem_cons hc, List.takeWhile_cons, if_pos (by simpa using h), List.length_cons]
  omega
theorem findG_stop {gs : List (List Bool)} {r c : Nat} (h : covAt gs r c = false) : findG gs r c = c := by
  unfold covAt at h
  unfold findG
  by_cases hc : c < (gs.getD r []).length
  · rw [List.getD_eq_getElem?_getD, List.getElem?_eq_getElem hc] at h
    rw [List.drop_eq_getElem_cons hc, List.takeWhile_cons, if_neg (by simpa using h)]
    rfl
  · rw [List.drop_eq_nil_of_le (by omega)]
    rfl
/-- Places that are all covered are passed. -/
theorem findG_jump {gs : List (List Bool)} {r : Nat} (m : Nat) : ∀ c, (∀ i, i < m → covAt gs r (c + i) = true) → findG gs r (c + m) = findG gs r c ∧ c + m ≤ findG gs r c ∨ m = 0 := by
  induction m with
  | zero => exact fun c h => .inr rfl
  | succ m ih =>
    intro c h
    have h0 := findG_hop (h 0 (by omega))
    rcases ih (c + 1) (fun i hi => by rw [show c + 1 + i = c + (i + 1) from by omega]; exact h _ (by omega)) with h1 | h1
    · refine .inl ⟨?_, ?_⟩
      · rw [show c + (m + 1) = c + 1 + m from by omega, h1.1]
        exact h0.1
      · have := h1.2
        have := h0.1
        simp only [Nat.add_zero] at *
        omega
    · subst h1
      simp only [Nat.add_zero] at h0
      exact .inl ⟨h0.1, h0.2⟩

def inP (b : S35) (r c : Int) : Prop := b.f0 ≤ r ∧ r < b.f0 + b.f2 ∧ b.f1 ≤ c ∧ c < b.f1 + b.f3
instance (b : S35) (r c : Int) : Decidable (inP b r c) := inferInstanceAs (Decidable (_ ∧ _))
/-- Two blocks share a place. -/
def meets (o b : S35) : Prop := o.f0 < b.f0 + b.f2 ∧ b.f0 < o.f0 + o.f2 ∧ o.f1 < b.f1 + b.f3 ∧ b.f1 < o.f1 + o.f3
instance (o b : S35) : Decidable (meets o b) := inferInstanceAs (Decidable (_ ∧ _))
structure BI (n N : Nat) (gs : List (List Bool)) (bs : List S35) : Prop where
  len : gs.length = n
  cov : ∀ r c : Nat, r < n → (covAt gs r c = true ↔ ∃ b ∈ bs, inP b r c)
  bd : ∀ b ∈ bs, 0 ≤ b.f0 ∧ 1 ≤ b.f2 ∧ b.f0 + b.f2 ≤ n ∧ 0 ≤ b.f1 ∧ 1 ≤ b.f3 ∧ b.f1 + b.f3 ≤ N
theorem BI.mono {n N M : Nat} {gs : List (List Bool)} {bs : List S35} (h : BI n N gs bs) (hN : N ≤ M) : BI n M gs bs := ⟨h.len, h.cov, fun b hb => by have := h.bd b hb; omega⟩
theorem covAt_none (n r c : Nat) : covAt (List.replicate n []) r c = false := by
  unfold covAt
  rw [List.getD_eq_getElem?_getD (l := List.replicate n []), List.getElem?_replicate]
  split <;> rfl
theorem BI.start (n : Nat) : BI n 0 (List.replicate n []) [] := ⟨by simp, fun r c _ => by simp [covAt_none], fun b hb => by cases hb⟩
/-- A block is laid. -/
theorem BI.lay {n N : Nat} {gs : List (List Bool)} {bs : List S35} (h : BI n N gs bs) (r c wi th : Nat) (hr : r + th ≤ n) (h1 : 1 ≤ th) (h2 : 1 ≤ wi) (hN : c + wi ≤ N) :
    BI n N (blk gs false r c wi th).1 (bs ++ [⟨r, c, th, wi⟩]) ∧ ((blk gs false r c wi th).2 = true ↔ ∃ o ∈ bs, meets o ⟨r, c, th, wi⟩) := by
  obtain ⟨g1, g2, g3⟩ := blk_cov gs r c wi th (by rw [h.len]; exact hr)
  refine ⟨⟨by rw [g1, h.len], fun r' c' hr' => ?_, fun b hb => ?_⟩, ?_⟩
  · rw [g2]
    simp only [List.mem_append, List.mem_singleton]
    split
    · rename_i e
      simp only [true_iff]
      exact ⟨_, .inr rfl, by unfold inP; simp only; omega⟩
    · rename_i e
      rw [h.cov r' c' hr']
      constructor
      · rintro ⟨b, hb, hi⟩
        exact ⟨b, .inl hb, hi⟩
      · rintro ⟨b, hb | rfl, hi⟩
        · exact ⟨b, hb, hi⟩
        · unfold inP at hi
          simp only at hi
          omega
  · rcases List.mem_append.1 hb with hb | hb
    · exact h.bd b hb
    · rw [List.mem_singleton] at hb
      subst hb
      simp only
      omega
  · rw [g3]
    constructor
    · rintro ⟨i, j, hi, hj, hc⟩
      obtain ⟨b, hb, hin⟩ := (h.cov (r + i) (c + j) (by omega)).1 hc
      refine ⟨b, hb, ?_⟩
      unfold inP at hin
      unfold meets
      simp only
      omega
    · rintro ⟨o, ho, hm⟩
      have hb := h.bd o ho
      unfold meets at hm
      simp only at hm
      -- a place that both hold
      refine ⟨(max (r : Int) o.f0 - r).toNat, (max (c : Int) o.f1 - c).toNat, by omega, by omega, ?_⟩
      refine (h.cov _ _ (by omega)).2 ⟨o, ho, ?_⟩
      unfold inP
      omega
end Go.Proofs.Ytdekcbpngbgjmaa.PC
