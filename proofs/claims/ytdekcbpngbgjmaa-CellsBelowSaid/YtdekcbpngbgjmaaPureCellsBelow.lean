/- The plain law of CellsBelow: rows below change nothing of where cells above stand. Conditions: those of the definition Ask. -/
import Derived.Test.YtdekcbpngbgjmaaAskCellsBelow
import Derived.Test.YtdekcbpngbgjmaaLayBelow
namespace Go.Proofs.Ytdekcbpngbgjmaa.Pure
open Go.RowKit Go.Proofs.Ytdekcbpngbgjmaa.PC Go.Proofs.YtdekcbpngbgjmaaW.PrintWords Go.Proofs.YtdekcbpngbgjmaaW.PrintLast

namespace Below
theorem speaks_ok : beadlelaw22_speaks.f = some true := by decide +kernel
theorem many_ev (rows : List (List S37)) (d : Nat) : ∀ (i n : Int), 0 ≤ i → 0 ≤ n → n ≤ 400 → i ≤ 401 → i + d = rows.length → (∀ x ∈ rows, x.length ≤ 140737488351232) →
    Ev (fun k => beadlelaw22_many.l0 k rows n i) true ∨ Ev (fun k => beadlelaw22_many.l0 k rows n i) false ∧ rows.length ≤ 401 ∧ n + (cells (rows.drop i.toNat) : Int) ≤ 400 := by
  induction d with
  | zero =>
    intro i n h0 h1 h2 h3 hd _
    refine .inr ⟨Ev.step (fun k => ?_) (Ev.now _), by omega, ?_⟩
    · simp only [beadlelaw22_many.l0]
      rw [if_neg (by omega)]
    · rw [List.drop_eq_nil_of_le (by omega)]
      simp only [cells]; omega
  | succ d ih =>
    intro i n h0 h1 h2 h3 hd hw
    have hil : i.toNat < rows.length := by omega
    have hrd : rd_L4 rows i = rows[i.toNat] := by
      unfold rd_L4
      rw [List.getD_eq_getElem?_getD, List.getElem?_eq_getElem hil]
      rfl
    have hx : (rd_L4 rows i).length ≤ 140737488351232 := by
      rw [hrd]
      exact hw _ (List.getElem_mem _)
    by_cases hb : n + ((rd_L4 rows i).length : Int) ≤ 400
    · by_cases hi : i > 400
      · refine .inl (Ev.step (fun k => ?_) (Ev.now _))
        simp only [beadlelaw22_many.l0]
        rw [if_pos (by omega), if_pos h0, w64 (by omega) (by omega), if_neg (by omega), if_pos hi]
      · have hs : ∀ b, Ev (fun k => beadlelaw22_many.l0 k rows (n + ((rd_L4 rows i).length : Int)) (i + 1)) b → Ev (fun k => beadlelaw22_many.l0 k rows n i) b := by
          intro b hE
          refine Ev.step (fun k => ?_) hE
          simp only [beadlelaw22_many.l0]
          rw [if_pos (by omega), if_pos h0, w64 (by omega) (by omega), if_neg (by omega), if_neg hi, w64 (by omega) (by omega)]
        rcases ih (i + 1) (n + ((rd_L4 rows i).length : Int)) (by omega) (by omega) (by omega) (by omega) (by omega) hw with h | ⟨h, hl, hj⟩
        · exact .inl (hs _ h)
        · refine .inr ⟨hs _ h, hl, ?_⟩
          rw [List.drop_eq_getElem_cons hil, cells, ← hrd]
          rw [show (i + 1).toNat = i.toNat + 1 from by omega] at hj
          omega
    · refine .inl (Ev.step (fun k => ?_) (Ev.now _))
      simp only [beadlelaw22_many.l0]
      rw [if_pos (by omega), if_pos h0, w64 (by omega) (by omega), if_pos (by omega)]

theorem over_ev (xs ys : List Int) (hp : xs <+: ys) (hl : ys.length ≤ 4096) (d : Nat) : ∀ i : Int, 0 ≤ i → i + d = xs.length → Ev (fun k => beadlelaw22_CellsBelow.l2 k xs ys i) true := by
  have hle := hp.length_le
  induction d with
  | zero =>
    intro i h0 hd
    refine Ev.step (fun k => ?_) (Ev.now _)
    simp only [beadlelaw22_CellsBelow.l2]
    rw [if_neg (by omega)]
  | succ d ih =>
    intro i h0 hd
    have hr : rd ys i = rd xs i := by
      obtain ⟨t, rfl⟩ := hp
      unfold rd
      rw [List.getD_eq_getElem?_getD, List.getD_eq_getElem?_getD, List.getElem?_append_left (by omega)]
    refine Ev.step (fun k => ?_) (ih (i + 1) (by omega) (by omega))
    simp only [beadlelaw22_CellsBelow.l2]
    rw [if_pos (by omega), if_neg (by omega), if_pos h0, if_pos (by omega), if_pos hr, w64 (by omega) (by omega)]
theorem same_ev (a b : List S33) (ov ow : List Int) (n : Nat) (hn : n ≤ 400) (ha : n ≤ a.length) (hb : n ≤ b.length) (h : ∀ i : Nat, i < n → (rd_T33 a (i : Int)).f0 = (rd_T33 b (i : Int)).f0 ∧ (rd_T33 a (i : Int)).f1 = (rd_T33 b (i : Int)).f1 ∧ (rd_T33 a (i : Int)).f2 ≤ (rd_T33 b (i : Int)).f2)
    (hE : Ev (fun k => beadlelaw22_CellsBelow.l2 k ov ow 0) true) (d : Nat) : ∀ i : Nat, i + d = n → Ev (fun k => beadlelaw22_CellsBelow.l1 k a ov b ow n i) true := by
  induction d with
  | zero =>
    intro i hd
    refine Ev.step (fun k => ?_) hE
    simp only [beadlelaw22_CellsBelow.l1]
    rw [if_neg (by omega)]
  | succ d ih =>
    intro i hd
    obtain ⟨h1, h2, h3⟩ := h i (by omega)
    refine Ev.step (fun k => ?_) (ih (i + 1) (by omega))
    simp only [beadlelaw22_CellsBelow.l1]
    rw [if_pos (by omega), if_pos (by omega), if_pos (by omega), if_pos (by omega), if_pos h1, if_pos h2, if_neg (by omega), w64 (by omega) (by omega)]
    rfl
theorem count_ev (rows : List (List S37)) (a b : List S33) (ov ow : List Int) (hl : rows.length ≤ 401) (hc : cells rows ≤ 400) (hE : Ev (fun k => beadlelaw22_CellsBelow.l0 k rows a ov b ow (cells rows) rows.length) true) (ys : List (List S37)) : ∀ (i n : Nat), rows.drop i = ys → i ≤ rows.length → n + cells ys = cells rows →
    Ev (fun k => beadlelaw22_CellsBelow.l0 k rows a ov b ow n i) true := by
  induction ys with
  | nil =>
    intro i n hi h0 hn
    have : rows.length ≤ i := by simpa using hi
    obtain rfl : i = rows.length := by omega
    simp only [cells] at hn
    rw [show n = cells rows from by omega]
    exact hE
  | cons y ys ih =>
    intro i n hi h0 hn
    have hil : i < rows.length := by
      apply Decidable.byContradiction
      intro hn
      rw [List.drop_eq_nil_of_le (by omega)] at hi
      cases hi
    rw [List.drop_eq_getElem_cons hil] at hi
    injection hi with hi1 hi2
    have hyr : rd_L4 rows i = y := by
      unfold rd_L4
      rw [List.getD_eq_getElem?_getD, show ((i : Int)).toNat = i from by omega, List.getElem?_eq_getElem hil]
      exact hi1
    rw [cells] at hn
    refine Ev.step (fun k => ?_) (ih (i + 1) (n + y.length) hi2 (by omega) (by omega))
    simp only [beadlelaw22_CellsBelow.l0]
    rw [if_pos (by omega), if_pos (by omega), hyr, w64 (by omega) (by omega), w64 (by omega) (by omega)]
    rfl
end Below
open Below in
theorem CellsBelow : beadlelaw22_CellsBelow.Ask := by
  intro rows more _ hw _ hv
  refine Ev.rounds (g := fun k => beadlelaw22_CellsBelow.f k rows more) ?_
  unfold beadlelaw22_CellsBelow.f
  rw [Below.speaks_ok]
  simp only [Option.bind_some, if_true]
  have hTrue : Ev (fun k => beadlelaw22_CellsBelow.j0 k rows more true) true := by
    refine Ev.step (fun k => ?_) (Ev.now _)
    simp only [beadlelaw22_CellsBelow.j0]
    rfl
  rcases Below.many_ev rows rows.length 0 0 (by omega) (by omega) (by omega) (by omega) (by omega) (fun x hx => by have := (hw.2 x hx).1; omega) with h | ⟨h, hl, hc⟩
  · exact Ev.bind h (by simp only [if_true]; exact hTrue)
  · refine Ev.bind h ?_
    simp only [Bool.false_eq_true, if_false]
    rcases Below.many_ev more more.length 0 0 (by omega) (by omega) (by omega) (by omega) (by omega) (fun x hx => by have := (hv.2 x hx).1; omega) with g | ⟨g, gl, gc⟩
    · exact Ev.bind g hTrue
    · refine Ev.bind g ?_
      simp only [Int.toNat_zero, List.drop_zero] at hc gc
      have hal : (rows ++ more).length ≤ 802 := by rw [List.length_append]; omega
      refine Ev.step (f := fun k => beadlelaw22_CellsBelow.l0 k rows (laid rows).at_ (laid rows).over (laid (rows ++ more)).at_ (laid (rows ++ more)).over ((0 : Nat) : Int) ((0 : Nat) : Int)) (fun k => ?_) ?_
      · simp only [beadlelaw22_CellsBelow.j0]
        rw [if_neg (by simp)]
        unfold cells_Lay.f
        rw [if_pos (by omega), if_pos (by omega)]
        simp only [Option.bind_some]
        rfl
      · refine Below.count_ev rows _ _ _ _ hl (by omega) ?_ rows 0 0 rfl (by omega) (by omega)
        have hj : ∀ b : Bool, (b = false → Ev (fun k => beadlelaw22_CellsBelow.l1 k (laid rows).at_ (laid rows).over (laid (rows ++ more)).at_ (laid (rows ++ more)).over (cells rows) ((0 : Nat) : Int)) true) → Ev (fun k => beadlelaw22_CellsBelow.j2 k (laid rows).at_ (laid rows).over (laid (rows ++ more)).at_ (laid (rows ++ more)).over (cells rows) b) true := by
          intro b hb
          cases b with
          | true =>
            refine Ev.step (fun k => ?_) (Ev.now _)
            simp only [beadlelaw22_CellsBelow.j2]
            rfl
          | false =>
            refine Ev.step (fun k => ?_) (hb rfl)
            simp only [beadlelaw22_CellsBelow.j2]
            rw [if_neg (by simp)]
            rfl
        have hov : (laid (rows ++ more)).over.length ≤ 4096 := by
          obtain ⟨bs, pre, _, h2, _, _, _, h6, _⟩ := laid_over (rows ++ more)
          rw [h2]
          unfold overOf
          rw [List.length_map]
          refine Nat.le_trans (List.length_filter_le _ _) ?_
          rw [List.length_range]
          exact h6
        rcases laid_below rows more with h1 | h1 | ⟨h1, h2, h3, h4⟩
        · refine Ev.step (fun k => ?_) (hj true (fun e => by cases e))
          simp only [beadlelaw22_CellsBelow.l0]
          rw [if_neg (by omega), if_pos (by omega)]
        · by_cases e : ((laid rows).at_.length : Int) < (cells rows : Int)
          · refine Ev.step (fun k => ?_) (hj true (fun e => by cases e))
            simp only [beadlelaw22_CellsBelow.l0]
            rw [if_neg (by omega), if_pos e]
          · refine Ev.step (fun k => ?_) (hj true (fun e => by cases e))
            simp only [beadlelaw22_CellsBelow.l0]
            rw [if_neg (by omega), if_neg e, decide_eq_true (by omega)]
        · refine Ev.step (fun k => ?_) (hj false (fun _ => Below.same_ev _ _ _ _ (cells rows) (by omega) h3 h4 h1 (Below.over_ev _ _ h2 hov (laid rows).over.length 0 (by omega) (by omega)) (cells rows) 0 (by omega)))
          simp only [beadlelaw22_CellsBelow.l0]
          rw [if_neg (by omega), if_neg (by omega), decide_eq_false (by omega)]
end Go.Proofs.Ytdekcbpngbgjmaa.Pure
