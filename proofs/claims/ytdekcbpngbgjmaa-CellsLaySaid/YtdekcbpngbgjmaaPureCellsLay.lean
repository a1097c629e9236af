/- The plain law of CellsLay: what the functions compute answers true. Conditions: those of the definition Ask. -/
import Derived.Test.YtdekcbpngbgjmaaAskCellsLay
import Derived.Test.YtdekcbpngbgjmaaRefLay
namespace Go.Proofs.Ytdekcbpngbgjmaa.Pure
open Go.RowKit Go.Proofs.Ytdekcbpngbgjmaa.PC Go.Proofs.YtdekcbpngbgjmaaW.PrintWords Go.Proofs.YtdekcbpngbgjmaaW.PrintLast

theorem speaks_ok : beadlelaw22_speaks.f = some true := by decide +kernel
theorem many_ev (rows : List (List S37)) (d : Nat) : ∀ (i n : Int), 0 ≤ i → 0 ≤ n → n ≤ 400 → i ≤ 401 → i + d = rows.length → (∀ x ∈ rows, x.length ≤ 140737488351232) →
    Ev (fun k => beadlelaw22_many.l0 k rows n i) true ∨ Ev (fun k => beadlelaw22_many.l0 k rows n i) false ∧ rows.length ≤ 401 ∧ ∀ j : Nat, i ≤ j → (rd_L4 rows j).length ≤ 400 := by
  induction d with
  | zero =>
    intro i n h0 h1 h2 h3 hd _
    refine .inr ⟨Ev.step (fun k => ?_) (Ev.now _), by omega, fun j hj => ?_⟩
    · simp only [beadlelaw22_many.l0]
      rw [if_neg (by omega)]
    · unfold rd_L4
      rw [List.getD_eq_getElem?_getD, List.getElem?_eq_none (by omega)]
      simp
  | succ d ih =>
    intro i n h0 h1 h2 h3 hd hw
    have hx : (rd_L4 rows i).length ≤ 140737488351232 := by
      unfold rd_L4
      rw [List.getD_eq_getElem?_getD, List.getElem?_eq_getElem (by omega)]
      exact hw _ (List.getElem_mem _)
    by_cases hb : n + ((rd_L4 rows i).length : Int) ≤ 400
    · by_cases hi : i > 400
      · refine .inl (Ev.step (fun k => ?_) (Ev.now _))
        simp only [beadlelaw22_many.l0]
        rw [if_pos (by omega), if_pos h0, w64 (by omega) (by omega), if_neg (by omega), if_pos hi]
      · have hs : ∀ b, Ev (fun k => beadlelaw22_many.l0 k rows (n + ((rd_L4 rows i).length : Int)) (i + 1)) b → Ev (fun k => beadlelaw22_many.l0 k rows n i) b := by
          intro b hE
          refine Ev.step (fun k => ?_) hE
          simp only [beadlelaw22_many.l0]
          rw [if_pos (by omega), if_pos h0, w64 (by omega) (by omega), if_neg (by omega), if_neg hi, w64 (by omega) (by omega)]
        rcases ih (i + 1) (n + ((rd_L4 rows i).length : Int)) (by omega) (by omega) (by omega) (by omega) (by omega) hw with h | ⟨h, hl, hj⟩
        · exact .inl (hs _ h)
        · refine .inr ⟨hs _ h, hl, fun j hij => ?_⟩
          by_cases e : (j : Int) = i
          · rw [e]; omega
          · exact hj j (by omega)
    · refine .inl (Ev.step (fun k => ?_) (Ev.now _))
      simp only [beadlelaw22_many.l0]
      rw [if_pos (by omega), if_pos h0, w64 (by omega) (by omega), if_pos (by omega)]
theorem ints_ev (xs : List Int) (hn : xs.length ≤ 4096) (d : Nat) : ∀ (i : Int), 0 ≤ i → i + d = xs.length → Ev (fun k => beadlelaw22_ints.l0 k xs xs i) true := by
  induction d with
  | zero =>
    intro i h0 hd
    refine Ev.step (fun k => ?_) (Ev.now _)
    simp only [beadlelaw22_ints.l0]
    rw [if_neg (by omega)]
  | succ d ih =>
    intro i h0 hd
    refine Ev.step (fun k => ?_) (ih (i + 1) (by omega) (by omega))
    simp only [beadlelaw22_ints.l0]
    rw [if_pos (by omega), if_pos h0, if_pos (by omega), if_pos trivial, w64 (by omega) (by omega)]
theorem ints_self (xs : List Int) (hn : xs.length ≤ 4096) : Ev (fun k => beadlelaw22_ints.f k xs xs) true := by
  unfold beadlelaw22_ints.f
  simp only [if_true]
  exact ints_ev xs hn xs.length 0 (by omega) (by omega)
theorem at_ev (bs : List S35) (hn : bs.length ≤ 4096) (d : Nat) : ∀ (i : Int), 0 ≤ i → i + d = bs.length → Ev (fun k => beadlelaw22_CellsLay.l0 k (bs.map p33) bs i) true := by
  induction d with
  | zero =>
    intro i h0 hd
    refine Ev.step (fun k => ?_) (Ev.now _)
    simp only [beadlelaw22_CellsLay.l0]
    rw [if_neg (by omega)]
  | succ d ih =>
    intro i h0 hd
    refine Ev.step (fun k => ?_) (ih (i + 1) (by omega) (by omega))
    have e : rd_T33 (bs.map p33) i = p33 (rd_T35 bs i) := by
      unfold rd_T33 rd_T35
      rw [List.getD_eq_getElem?_getD, List.getD_eq_getElem?_getD, List.getElem?_map, List.getElem?_eq_getElem (by omega)]
      rfl
    simp only [beadlelaw22_CellsLay.l0]
    rw [if_pos (by omega), if_pos h0, if_pos (by rw [List.length_map]; omega), e, w64 (by omega) (by omega)]
    simp [p33]

/- ∀ (l0 : List (List (S37))), ((l0.length ≤ maxLen ∧ ∀ x ∈ l0, (x.length ≤ maxLen ∧ ∀ x ∈ x, wf37 x))) → ∃ k, beadlelaw22_CellsLay.f k l0 = some true -/
theorem CellsLay : beadlelaw22_CellsLay.Ask := by
  intro rows _ hw
  refine Ev.rounds (g := fun k => beadlelaw22_CellsLay.f k rows) ?_
  unfold beadlelaw22_CellsLay.f
  rw [speaks_ok]
  simp only [Option.bind_some, if_true]
  rcases many_ev rows rows.length 0 0 (by omega) (by omega) (by omega) (by omega) (by omega) (fun x hx => by have := (hw.2 x hx).1; omega) with h | ⟨h, hl, hj⟩
  · exact Ev.bind h (by simp only [if_true]; exact Ev.now _)
  · refine Ev.bind h ?_
    simp only [Bool.false_eq_true, if_false]
    obtain ⟨bs, h1, h2, h3, h4, h5⟩ := ref_lay rows (by omega) (fun r => by have := hj r (by omega); omega)
    unfold cells_Lay.f
    rw [if_pos (by omega)]
    simp only [Option.bind_some]
    refine Ev.bind h5 ?_
    simp only [h1, List.length_map, if_true]
    refine Ev.bind (ints_self _ h3) ?_
    simp only [if_true]
    refine Ev.bind (ints_self _ h4) ?_
    simp only [Bool.not_true]
    refine Ev.step (f := fun k => beadlelaw22_CellsLay.l0 k (bs.map p33) bs 0) (fun k => ?_) (at_ev bs h2 bs.length 0 (by omega) (by omega))
    simp only [beadlelaw22_CellsLay.j0]
    rfl
end Go.Proofs.Ytdekcbpngbgjmaa.Pure
