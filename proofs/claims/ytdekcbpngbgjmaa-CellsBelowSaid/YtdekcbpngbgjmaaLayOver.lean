/- What LaySpec lays, with the cells that lie over others: just those that meet one ahead. No program in sight. -/
import Derived.Test.YtdekcbpngbgjmaaHLay
import Derived.Test.YtdekcbpngbgjmaaLayLaw
namespace Go.Proofs.Ytdekcbpngbgjmaa.PC
open Go.RowKit Go.Proofs.YtdekcbpngbgjmaaW.PrintWords Go.Proofs.YtdekcbpngbgjmaaW.PrintLast Go.Proofs.YtdekcbpngbgjmaaW.PrintMore

theorem w64 {n : Int} (h0 : -9223372036854775808 ≤ n) (h1 : n ≤ 9223372036854775807) : wrap64 n = n := by unfold wrap64; omega
abbrev p33 (b : S35) : S33 := ⟨b.f0, b.f1, b.f2⟩
theorem rd35_mem {bs : List S35} {i : Int} (h0 : 0 ≤ i) (h : i < bs.length) : rd_T35 bs i ∈ bs := by
  unfold rd_T35
  rw [List.getD_eq_getElem?_getD, List.getElem?_eq_getElem (by omega)]
  exact List.getElem_mem _
def cells : List (List S37) → Nat
  | [] => 0
  | r :: rs => r.length + cells rs
def flatten : List (List S37) → List S37
  | [] => []
  | r :: rs => r ++ flatten rs
theorem flatten_len (rows : List (List S37)) : (flatten rows).length = cells rows := by
  induction rows with
  | nil => rfl
  | cons r rs ih => simp [flatten, cells, ih]
def overOf (bs : List S35) : List Int := ((List.range bs.length).filter fun i => (bs.take i).any fun o => decide (meets o (rd_T35 bs (i : Int)))).map Int.ofNat
theorem overOf_snoc (bs : List S35) (b : S35) : overOf (bs ++ [b]) = overOf bs ++ (if (bs.any fun o => decide (meets o b)) = true then [(bs.length : Int)] else []) := by
  have hcong : ((List.range bs.length).filter fun i => ((bs ++ [b]).take i).any fun o => decide (meets o (rd_T35 (bs ++ [b]) (i : Int)))) = ((List.range bs.length).filter fun i => (bs.take i).any fun o => decide (meets o (rd_T35 bs (i : Int)))) := by
    apply List.filter_congr
    intro i hi
    have hi : i < bs.length := List.mem_range.1 hi
    have e : rd_T35 (bs ++ [b]) (i : Int) = rd_T35 bs (i : Int) := by
      unfold rd_T35
      rw [List.getD_eq_getElem?_getD, List.getD_eq_getElem?_getD, List.getElem?_append_left (by omega)]
    rw [e, List.take_append_of_le_length (by omega)]
  have hl : rd_T35 (bs ++ [b]) (bs.length : Int) = b := by
    unfold rd_T35
    rw [List.getD_eq_getElem?_getD, show ((bs.length : Int)).toNat = bs.length from by omega, List.getElem?_append_right (by omega)]
    simp
  unfold overOf
  rw [List.length_append, List.length_singleton, List.range_succ, List.filter_append, hcong, List.map_append]
  congr 1
  rw [List.filter_cons, hl, List.take_left]
  split <;> simp

/-- The cells laid so far, as blocks; what was told; which of the row's cells they are. -/
structure OI (n : Nat) (s : LS) (bs : List S35) (pre : List S37) : Prop where
  lb : LB n s
  bi : BI n (1000 * s.at_.length) s.gs bs
  at_ : s.at_ = bs.map p33
  ov : s.over = overOf bs
  len : pre.length = bs.length
  wide : bs.map (·.f3) = pre.map (fun x => bnd x.f1)
theorem OI.cell {n r : Nat} {x : S37} {s s' : LS} {bs : List S35} {pre : List S37} (h : OI n s bs pre) (hr : r < n) (hs : layCell n r x s = some s') : ∃ b, OI n s' (bs ++ [b]) (pre ++ [x]) := by
  have hlb := h.lb.cell hr hs
  obtain ⟨h1, h2⟩ := bnd_bd x.f0
  obtain ⟨h3, h4⟩ := bnd_bd x.f1
  have hf := findG_bd (r := r) h.lb.lens h.lb.col
  have hal : s.at_.length = bs.length := by rw [h.at_, List.length_map]
  obtain ⟨hB, hO⟩ := (h.bi.mono (M := 1000 * (s.at_.length + 1)) (by omega)).lay r (findG s.gs r s.col) (bnd x.f1).toNat (min (bnd x.f0) ((n : Int) - (r : Int))).toNat (by omega) (by omega) (by omega) (by omega)
  have e1 : (((min (bnd x.f0) ((n : Int) - (r : Int))).toNat : Nat) : Int) = min (bnd x.f0) ((n : Int) - (r : Int)) := by omega
  have e2 : (((bnd x.f1).toNat : Nat) : Int) = bnd x.f1 := by omega
  rw [e1, e2] at hB hO
  refine ⟨⟨r, findG s.gs r s.col, min (bnd x.f0) ((n : Int) - (r : Int)), bnd x.f1⟩, hlb, ?_, ?_, ?_, by simp [h.len], by simp [h.wide]⟩
  all_goals
    unfold layCell at hs
    simp only at hs
    split at hs
    · simp at hs
    · obtain rfl := Option.some.inj hs
      simp only
      first
        | (rw [List.length_append, List.length_singleton]; exact hB)
        | (rw [List.map_append, ← h.at_]; rfl)
        | (rw [overOf_snoc, ← h.ov, hal]
           by_cases e : (blk s.gs false r (findG s.gs r s.col) (bnd x.f1).toNat (min (bnd x.f0) ((n : Int) - (r : Int))).toNat).2 = true
           · rw [if_pos e, if_pos]
             have := hO.1 e
             simpa using this
           · rw [if_neg e, if_neg, List.append_nil]
             intro h2
             exact e (hO.2 (by simpa using h2)))
theorem OI.row {n r : Nat} (hr : r < n) (xs : List S37) : ∀ (s : LS) (bs : List S35) (pre : List S37), OI n s bs pre → ∃ bs' pre', OI n (layRow n r xs s).1 bs' pre' ∧ pre' <+: pre ++ xs ∧ ((layRow n r xs s).2 = false → pre' = pre ++ xs) := by
  induction xs with
  | nil => exact fun s bs pre h => ⟨bs, pre, h, by simp, fun _ => by simp⟩
  | cons x xs ih =>
    intro s bs pre h
    rw [layRow]
    cases e : layCell n r x s with
    | none => exact ⟨bs, pre, h, List.prefix_append _ _, fun e => by simp at e⟩
    | some s' =>
      obtain ⟨b, hb⟩ := h.cell hr e
      obtain ⟨bs', pre', h1, h2, h3⟩ := ih s' _ _ hb
      rw [List.append_assoc] at h2 h3
      exact ⟨bs', pre', h1, h2, h3⟩
theorem OI.rows {n : Nat} (rows : List (List S37)) : ∀ (r : Nat) (s : LS) (bs : List S35) (pre : List S37), OI n s bs pre → r + rows.length ≤ n → ∃ bs' pre', OI n (layRows n rows r s) bs' pre' ∧ pre' <+: pre ++ flatten rows := by
  induction rows with
  | nil => exact fun r s bs pre h _ => ⟨bs, pre, h, by simp [flatten]⟩
  | cons row rows ih =>
    intro r s bs pre h hr
    rw [List.length_cons] at hr
    have h0 : OI n { s with col := 0 } bs pre := ⟨⟨h.lb.len, h.lb.lens, by simp, h.lb.sum, h.lb.left, h.lb.ov, h.lb.by_⟩, h.bi, h.at_, h.ov, h.len, h.wide⟩
    obtain ⟨bs1, pre1, h1, h2, h3⟩ := OI.row (r := r) (by omega) row _ _ _ h0
    rw [layRows]
    cases e : (layRow n r row { s with col := 0 }).2 with
    | true =>
      rw [if_pos rfl]
      refine ⟨bs1, pre1, h1, h2.trans ?_⟩
      rw [flatten, ← List.append_assoc]
      exact List.prefix_append _ _
    | false =>
      rw [if_neg (by simp)]
      obtain ⟨bs2, pre2, q1, q2⟩ := ih (r + 1) _ bs1 pre1 h1 (by omega)
      rw [h3 e, List.append_assoc] at q2
      exact ⟨bs2, pre2, q1, by rw [flatten]; exact q2⟩
theorem laid_over (rows : List (List S37)) : ∃ (bs : List S35) (pre : List S37), (laid rows).at_ = bs.map p33 ∧ (laid rows).over = overOf bs ∧ pre <+: flatten rows ∧ pre.length = bs.length ∧ bs.map (·.f3) = pre.map (fun x => bnd x.f1) ∧ bs.length ≤ 4096 ∧ ∀ b ∈ bs, 0 ≤ b.f0 ∧ 1 ≤ b.f2 ∧ b.f0 + b.f2 ≤ rows.length ∧ 0 ≤ b.f1 ∧ 1 ≤ b.f3 ∧ b.f1 + b.f3 ≤ 4096000 := by
  have h0 : OI rows.length (ls0 rows.length) [] [] := ⟨LB.start _, by simpa [ls0] using BI.start rows.length, rfl, rfl, rfl, rfl⟩
  obtain ⟨bs, pre, h, hp⟩ := OI.rows rows 0 _ _ _ h0 (Nat.le_of_eq (Nat.zero_add _))
  have hal : (layRows rows.length rows 0 (ls0 rows.length)).at_.length = bs.length := by rw [h.at_, List.length_map]
  have hs := h.lb.sum
  have hl := h.lb.left
  have hb4 : bs.length ≤ 4096 := by omega
  refine ⟨bs, pre, h.at_, h.ov, by simpa using hp, h.len, h.wide, hb4, fun b hb => ?_⟩
  have := h.bi.bd b hb
  rw [hal] at this
  omega
end Go.Proofs.Ytdekcbpngbgjmaa.PC
