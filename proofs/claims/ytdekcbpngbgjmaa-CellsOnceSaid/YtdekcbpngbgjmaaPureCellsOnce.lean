/- The plain law of CellsOnce: a cell is told just where it lies over one ahead of it. Conditions: those of the definition Ask. -/
import Derived.Test.YtdekcbpngbgjmaaAskCellsOnce
import Derived.Test.YtdekcbpngbgjmaaLayOver
namespace Go.Proofs.Ytdekcbpngbgjmaa.Pure
open Go.RowKit Go.Proofs.Ytdekcbpngbgjmaa.PC Go.Proofs.YtdekcbpngbgjmaaW.PrintWords Go.Proofs.YtdekcbpngbgjmaaW.PrintLast

namespace Once
theorem speaks_ok : beadlelaw22_speaks.f = some true := by decide +kernel
theorem many_ev (rows : List (List S37)) (d : Nat) : ∀ (i n : Int), 0 ≤ i → 0 ≤ n → n ≤ 400 → i ≤ 401 → i + d = rows.length → (∀ x ∈ rows, x.length ≤ 140737488351232) →
    Ev (fun k => beadlelaw22_many.l0 k rows n i) true ∨ Ev (fun k => beadlelaw22_many.l0 k rows n i) false ∧ rows.length ≤ 401 ∧ n + (cells (rows.drop i.toNat) : Int) ≤ 400 := by
  induction d with
  | zero =>
    intro i n h0 h1 h2 h3 hd _
    refine .inr ⟨Ev.step (fun k => ?_) (Ev.now _), by omega, ?_⟩
    · simp only [beadlelaw22_many.l0]
      rw [if_neg (by omega)]
    · rw [List.drop_eq_nil_of_le (by omega)]
      simp only [cells]; omega
  | succ d ih =>
    intro i n h0 h1 h2 h3 hd hw
    have hil : i.toNat < rows.length := by omega
    have hrd : rd_L4 rows i = rows[i.toNat] := by
      unfold rd_L4
      rw [List.getD_eq_getElem?_getD, List.getElem?_eq_getElem hil]
      rfl
    have hx : (rd_L4 rows i).length ≤ 140737488351232 := by
      rw [hrd]
      exact hw _ (List.getElem_mem _)
    by_cases hb : n + ((rd_L4 rows i).length : Int) ≤ 400
    · by_cases hi : i > 400
      · refine .inl (Ev.step (fun k => ?_) (Ev.now _))
        simp only [beadlelaw22_many.l0]
        rw [if_pos (by omega), if_pos h0, w64 (by omega) (by omega), if_neg (by omega), if_pos hi]
      · have hs : ∀ b, Ev (fun k => beadlelaw22_many.l0 k rows (n + ((rd_L4 rows i).length : Int)) (i + 1)) b → Ev (fun k => beadlelaw22_many.l0 k rows n i) b := by
          intro b hE
          refine Ev.step (fun k => ?_) hE
          simp only [beadlelaw22_many.l0]
          rw [if_pos (by omega), if_pos h0, w64 (by omega) (by omega), if_neg (by omega), if_neg hi, w64 (by omega) (by omega)]
        rcases ih (i + 1) (n + ((rd_L4 rows i).length : Int)) (by omega) (by omega) (by omega) (by omega) (by omega) hw with h | ⟨h, hl, hj⟩
        · exact .inl (hs _ h)
        · refine .inr ⟨hs _ h, hl, ?_⟩
          rw [List.drop_eq_getElem_cons hil, cells, ← hrd]
          rw [show (i + 1).toNat = i.toNat + 1 from by omega] at hj
          omega
    · refine .inl (Ev.step (fun k => ?_) (Ev.now _))
      simp only [beadlelaw22_many.l0]
      rw [if_pos (by omega), if_pos h0, w64 (by omega) (by omega), if_pos (by omega)]

theorem mnmx (a : Int) : mn (mx a 1) 1000 = bnd a := by
  unfold mn mx bnd
  (repeat' split) <;> omega
/-- What the loops read. -/
structure Rd (bs : List S35) (fl : List S37) : Prop where
  le : bs.length ≤ 400
  fle : bs.length ≤ fl.length
  wide : ∀ i : Nat, i < bs.length → bnd (rd_T37 fl (i : Int)).f1 = (rd_T35 bs (i : Int)).f3
  bd : ∀ b ∈ bs, 0 ≤ b.f0 ∧ b.f0 ≤ 10000000 ∧ 1 ≤ b.f2 ∧ b.f2 ≤ 10000000 ∧ 0 ≤ b.f1 ∧ b.f1 ≤ 10000000 ∧ 1 ≤ b.f3 ∧ b.f3 ≤ 10000000
theorem rd33 (bs : List S35) (i : Int) (h0 : 0 ≤ i) (h : i < bs.length) : rd_T33 (bs.map p33) i = p33 (rd_T35 bs i) := by
  unfold rd_T33 rd_T35
  rw [List.getD_eq_getElem?_getD, List.getD_eq_getElem?_getD, List.getElem?_map, List.getElem?_eq_getElem (by omega)]
  rfl
def hitB (bs : List S35) (i : Nat) : Bool := (bs.take i).any fun o => decide (meets o (rd_T35 bs (i : Int)))
theorem inner_ev {bs : List S35} {fl : List S37} (hR : Rd bs fl) (ov : List Int) (nx : Int) (i : Nat) (hi : i < bs.length) (R : Bool) (d : Nat) : ∀ (j : Nat) (h : Bool), j + d = i → h = ((bs.take j).any fun o => decide (meets o (rd_T35 bs (i : Int)))) →
    Ev (fun k => beadlelaw22_CellsOnce.l2 k (bs.map p33) ov fl nx i (hitB bs i) i) R → Ev (fun k => beadlelaw22_CellsOnce.l2 k (bs.map p33) ov fl nx i h j) R := by
  induction d with
  | zero =>
    intro j h hj hh hE
    obtain rfl : j = i := by omega
    rw [hh]
    exact hE
  | succ d ih =>
    intro j h hj hh hE
    have hjl : j < bs.length := by omega
    have hle := hR.le
    have hfle := hR.fle
    have bi := hR.bd _ (rd35_mem (bs := bs) (i := (i : Int)) (by omega) (by omega))
    have bj := hR.bd _ (rd35_mem (bs := bs) (i := (j : Int)) (by omega) (by omega))
    have hn : (bs.take (j + 1)).any (fun o => decide (meets o (rd_T35 bs (i : Int)))) = (h || decide (meets (rd_T35 bs (j : Int)) (rd_T35 bs (i : Int)))) := by
      rw [List.take_succ_eq_append_getElem hjl, List.any_append, ← hh]
      congr 1
      simp only [List.any_cons, List.any_nil, Bool.or_false]
      unfold rd_T35
      simp only [Int.toNat_natCast, List.getD_eq_getElem?_getD, List.getElem?_eq_getElem hjl, Option.getD_some]
    have hS := ih (j + 1) _ (by omega) hn.symm hE
    refine Ev.step (fun k => ?_) hS
    simp only [beadlelaw22_CellsOnce.l2]
    have hlm : (bs.map p33).length = bs.length := List.length_map _
    rw [if_pos (by omega), if_pos (by omega), if_pos (by omega), if_pos (by omega), if_pos (by omega), if_pos (by omega), if_pos (by omega), rd33 bs i (by omega) (by omega), rd33 bs j (by omega) (by omega), mnmx, mnmx, hR.wide i hi, hR.wide j hjl]
    simp only [w64 (n := (j : Int) + 1) (by omega) (by omega), w64 (n := (rd_T35 bs (j : Int)).f0 + (rd_T35 bs (j : Int)).f2) (by omega) (by omega), w64 (n := (rd_T35 bs (i : Int)).f0 + (rd_T35 bs (i : Int)).f2) (by omega) (by omega), w64 (n := (rd_T35 bs (j : Int)).f1 + (rd_T35 bs (j : Int)).f3) (by omega) (by omega), w64 (n := (rd_T35 bs (i : Int)).f1 + (rd_T35 bs (i : Int)).f3) (by omega) (by omega)]
    rw [show ((j + 1 : Nat) : Int) = (j : Int) + 1 from by omega]
    cases h with
    | true => simp
    | false =>
      unfold meets
      by_cases a1 : (rd_T35 bs (i : Int)).f0 < (rd_T35 bs (j : Int)).f0 + (rd_T35 bs (j : Int)).f2 <;> by_cases a2 : (rd_T35 bs (j : Int)).f0 < (rd_T35 bs (i : Int)).f0 + (rd_T35 bs (i : Int)).f2 <;> by_cases a3 : (rd_T35 bs (i : Int)).f1 < (rd_T35 bs (j : Int)).f1 + (rd_T35 bs (j : Int)).f3 <;> simp [a1, a2, a3]

theorem outer_ev {bs : List S35} {fl : List S37} (hR : Rd bs fl) (ov : List Int) (hov : ov.length ≤ 400) (d : Nat) : ∀ (i nx : Nat), i + d = bs.length → nx ≤ ov.length → ov.drop nx = ((List.range' i d).filter (hitB bs)).map Int.ofNat →
    Ev (fun k => beadlelaw22_CellsOnce.l1 k (bs.map p33) ov fl nx i) true := by
  have hlm : (bs.map p33).length = bs.length := List.length_map _
  have hle := hR.le
  induction d with
  | zero =>
    intro i nx hi hn hd
    have : ov.length ≤ nx := by simpa using hd
    refine Ev.step (fun k => ?_) (Ev.now _)
    simp only [beadlelaw22_CellsOnce.l1]
    rw [if_neg (by omega)]
    congr 1
    rw [beq_iff_eq]
    omega
  | succ d ih =>
    intro i nx hi hn hd
    have bi := hR.bd _ (rd35_mem (bs := bs) (i := (i : Int)) (by omega) (by omega))
    refine Ev.step (f := fun k => beadlelaw22_CellsOnce.l2 k (bs.map p33) ov fl nx i false ((0 : Nat) : Int)) (fun k => ?_) ?_
    · simp only [beadlelaw22_CellsOnce.l1]
      rw [if_pos (by omega)]
      rfl
    refine inner_ev hR ov nx i (by omega) true i 0 false (by omega) (by simp) ?_
    rw [List.range'_succ, List.filter_cons] at hd
    -- is it told?
    have hfin : ∀ (nx' : Nat), (((hitB bs i) = true ∧ nx' = nx + 1) ∨ ((hitB bs i) = false ∧ nx' = nx)) → Ev (fun k => beadlelaw22_CellsOnce.l1 k (bs.map p33) ov fl nx' ((i + 1 : Nat) : Int)) true → Ev (fun k => beadlelaw22_CellsOnce.j4 k (bs.map p33) ov fl nx i (hitB bs i) (hitB bs i)) true := by
      intro nx' hc hE
      refine Ev.step (fun k => ?_) hE
      simp only [beadlelaw22_CellsOnce.j4]
      rw [rd33 bs i (by omega) (by omega)]
      simp only []
      rcases hc with ⟨hc, rfl⟩ | ⟨hc, rfl⟩
      · rw [hc, if_pos rfl, if_neg (by simp), if_pos (by omega), if_pos (by omega), if_neg (by omega), w64 (by omega) (by omega), w64 (by omega) (by omega)]
        rfl
      · rw [hc, if_neg (by simp), if_neg (by simp), if_pos (by omega), if_pos (by omega), if_neg (by omega), w64 (by omega) (by omega)]
        rfl
    cases hb : hitB bs i with
    | true =>
      rw [hb] at hd hfin
      simp only [if_true, List.map_cons] at hd
      have hlt : nx < ov.length := by
        apply Decidable.byContradiction
        intro h
        rw [List.drop_eq_nil_of_le (by omega)] at hd
        cases hd
      rw [List.drop_eq_getElem_cons hlt] at hd
      injection hd with hd1 hd2
      have hrd : rd ov nx = (i : Int) := by
        unfold rd
        rw [List.getD_eq_getElem?_getD, show (((nx : Nat) : Int)).toNat = nx from by omega, List.getElem?_eq_getElem hlt]
        exact hd1
      refine Ev.step (fun k => ?_) (hfin (nx + 1) (.inl ⟨rfl, rfl⟩) (ih (i + 1) (nx + 1) (by omega) hlt hd2))
      simp only [beadlelaw22_CellsOnce.l2]
      rw [if_neg (by omega), if_pos (by omega), if_pos (by omega), hrd]
      simp
    | false =>
      rw [hb] at hd hfin
      simp only [Bool.false_eq_true, if_false] at hd
      have hS := hfin nx (.inr ⟨rfl, rfl⟩) (ih (i + 1) nx (by omega) hn hd)
      refine Ev.step (fun k => ?_) hS
      simp only [beadlelaw22_CellsOnce.l2]
      rw [if_neg (by omega)]
      by_cases hlt : nx < ov.length
      · rw [if_pos (by omega), if_pos (by omega)]
        rw [List.drop_eq_getElem_cons hlt] at hd
        have hmem : ov[nx] ∈ ((List.range' (i + 1) d).filter (hitB bs)).map Int.ofNat := by rw [← hd]; exact List.mem_cons_self
        obtain ⟨m, hm, hm2⟩ := List.mem_map.1 hmem
        have hm3 := List.mem_range'_1.1 (List.mem_filter.1 hm).1
        have hrd : rd ov nx = (m : Int) := by
          unfold rd
          rw [List.getD_eq_getElem?_getD, show (((nx : Nat) : Int)).toNat = nx from by omega, List.getElem?_eq_getElem hlt]
          exact hm2.symm
        rw [hrd, show ((m : Int) == (i : Int)) = false from by simp; omega]
      · rw [if_neg (by omega)]

theorem flat_ev (rows : List (List S37)) (at_ : List S33) (ov : List Int) (hc : cells rows ≤ 400) (hl : rows.length ≤ 401) (hat : at_.length ≤ (flatten rows).length) (hE : Ev (fun k => beadlelaw22_CellsOnce.l1 k at_ ov (flatten rows) 0 0) true) (ys : List (List S37)) : ∀ (i : Nat) (x6 : List S37), rows.drop i = ys → i ≤ rows.length → x6 ++ flatten ys = flatten rows →
    Ev (fun k => beadlelaw22_CellsOnce.l0 k rows at_ ov x6 i) true := by
  have hfl := flatten_len rows
  induction ys with
  | nil =>
    intro i x6 hi h0 hx
    have : rows.length ≤ i := by simpa using hi
    rw [flatten, List.append_nil] at hx
    subst hx
    refine Ev.step (fun k => ?_) hE
    simp only [beadlelaw22_CellsOnce.l0]
    rw [if_neg (by omega), if_neg (by omega)]
  | cons y ys ih =>
    intro i x6 hi h0 hx
    have hil : i < rows.length := by
      apply Decidable.byContradiction
      intro hn
      rw [List.drop_eq_nil_of_le (by omega)] at hi
      cases hi
    rw [List.drop_eq_getElem_cons hil] at hi
    injection hi with hi1 hi2
    have hyr : rd_L4 rows i = y := by
      unfold rd_L4
      rw [List.getD_eq_getElem?_getD, show ((i : Int)).toNat = i from by omega, List.getElem?_eq_getElem hil]
      exact hi1
    rw [flatten, ← List.append_assoc] at hx
    have hll : x6.length + y.length ≤ 400 := by
      have := congrArg List.length hx
      simp only [List.length_append] at this
      omega
    refine Ev.step (fun k => ?_) (ih (i + 1) (x6 ++ y) hi2 (by omega) hx)
    simp only [beadlelaw22_CellsOnce.l0]
    rw [if_pos (by omega), if_pos (by omega), hyr, if_pos (by omega), w64 (by omega) (by omega)]
    rfl
end Once
open Once in
theorem CellsOnce : beadlelaw22_CellsOnce.Ask := by
  intro rows _ hw
  refine Ev.rounds (g := fun k => beadlelaw22_CellsOnce.f k rows) ?_
  unfold beadlelaw22_CellsOnce.f
  rw [Once.speaks_ok]
  simp only [Option.bind_some, if_true]
  have hTrue : Ev (fun k => beadlelaw22_CellsOnce.j0 k rows true) true := by
    refine Ev.step (fun k => ?_) (Ev.now _)
    simp only [beadlelaw22_CellsOnce.j0]
    rfl
  rcases Once.many_ev rows rows.length 0 0 (by omega) (by omega) (by omega) (by omega) (by omega) (fun x hx => by have := (hw.2 x hx).1; omega) with h | ⟨h, hl, hc⟩
  · exact Ev.bind h (by simp only [if_true]; exact hTrue)
  · refine Ev.bind h ?_
    simp only [Bool.false_eq_true, if_false]
    by_cases h40 : (rows.length : Int) > 40
    · rw [decide_eq_true h40]
      exact hTrue
    · rw [decide_eq_false h40]
      simp only [Int.toNat_zero, List.drop_zero] at hc
      obtain ⟨bs, pre, h1, h2, h3, h4, h5, h6, h7⟩ := laid_over rows
      have hfl := flatten_len rows
      have hpl : pre.length ≤ (flatten rows).length := h3.length_le
      have hR : Once.Rd bs (flatten rows) := by
        refine ⟨by omega, by omega, fun i hi => ?_, fun b hb => ?_⟩
        · have := congrArg (fun l => l[i]?) h5
          simp only [List.getElem?_map] at this
          rw [List.getElem?_eq_getElem (by omega), List.getElem?_eq_getElem (by omega)] at this
          simp only [Option.map_some, Option.some.injEq] at this
          have hp : (flatten rows)[i]? = some pre[i] := by
            obtain ⟨t, ht⟩ := h3
            rw [← ht, List.getElem?_append_left (by omega), List.getElem?_eq_getElem (by omega)]
          unfold rd_T37 rd_T35
          rw [List.getD_eq_getElem?_getD, List.getD_eq_getElem?_getD, show (((i : Nat) : Int)).toNat = i from by omega, hp, List.getElem?_eq_getElem (by omega)]
          exact this.symm
        · have := h7 b hb
          omega
      refine Ev.step (f := fun k => beadlelaw22_CellsOnce.l0 k rows (bs.map p33) (laid rows).over ([] : List S37) 0) (fun k => ?_) ?_
      · simp only [beadlelaw22_CellsOnce.j0]
        rw [if_neg (by simp)]
        unfold cells_Lay.f
        rw [if_pos (by omega)]
        simp only [Option.bind_some, h1]
      · refine Once.flat_ev rows (bs.map p33) (laid rows).over (by omega) hl (by rw [List.length_map]; omega) ?_ rows 0 [] rfl (by omega) (by simp)
        refine Once.outer_ev hR (laid rows).over ?_ bs.length 0 0 (by omega) (by omega) ?_
        · rw [h2]
          unfold overOf
          rw [List.length_map]
          refine Nat.le_trans (List.length_filter_le _ _) ?_
          rw [List.length_range]
          omega
        · rw [List.drop_zero, h2]
          unfold overOf
          rw [List.range_eq_range']
          rfl
end Go.Proofs.Ytdekcbpngbgjmaa.Pure
