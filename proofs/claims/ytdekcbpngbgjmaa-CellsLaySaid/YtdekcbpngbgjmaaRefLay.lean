/- The printed reference's Lay lays what LaySpec lays: the same cells, the same numbers told. Conditions: those of each statement. -/
import Derived.Test.YtdekcbpngbgjmaaPCx5
import Derived.Test.YtdekcbpngbgjmaaHLay
import Derived.Test.YtdekcbpngbgjmaaLayLaw
namespace Go.Proofs.Ytdekcbpngbgjmaa.PC
open Go.RowKit Go.Proofs.YtdekcbpngbgjmaaW.PrintWords Go.Proofs.YtdekcbpngbgjmaaW.PrintLast Go.Proofs.YtdekcbpngbgjmaaW.PrintMore

theorem w64 {n : Int} (h0 : -9223372036854775808 ≤ n) (h1 : n ≤ 9223372036854775807) : wrap64 n = n := by unfold wrap64; omega
def p33 (b : S35) : S33 := ⟨b.f0, b.f1, b.f2⟩
/-- What the reference's state has in common with LaySpec's. -/
structure RI (n : Nat) (s : LS) (bs : List S35) : Prop where
  lb : LB n s
  bi : BI n (1000 * s.at_.length) s.gs bs
  at_ : s.at_ = bs.map p33
theorem RI.len {n : Nat} {s : LS} {bs : List S35} (h : RI n s bs) : s.at_.length = bs.length := by rw [h.at_, List.length_map]
theorem RI.le {n : Nat} {s : LS} {bs : List S35} (h : RI n s bs) : bs.length ≤ 4096 := by have := h.len; have := h.lb.sum; have := h.lb.left; omega
theorem bound_eq (a : Int) : beadleref22_bound.f a = some (bnd a) := by
  unfold beadleref22_bound.f bnd
  split
  · rfl
  · split <;> rfl
theorem in_eq (b : S35) (r c : Int) (h0 : -1000000000 ≤ b.f0 ∧ b.f0 ≤ 1000000000) (h1 : -1000000000 ≤ b.f1 ∧ b.f1 ≤ 1000000000) (h2 : -1000000000 ≤ b.f2 ∧ b.f2 ≤ 1000000000) (h3 : -1000000000 ≤ b.f3 ∧ b.f3 ≤ 1000000000) : beadleref22_in.f b.f0 b.f1 b.f2 b.f3 r c = some (decide (inP b r c)) := by
  unfold beadleref22_in.f inP
  rw [w64 (by omega) (by omega), w64 (by omega) (by omega)]
  by_cases a1 : r ≥ b.f0 <;> by_cases a2 : r < b.f0 + b.f2 <;> by_cases a3 : c ≥ b.f1 <;> simp [a1, a2, a3, ge_iff_le] <;> omega
theorem BI.small {n N : Nat} {gs : List (List Bool)} {bs : List S35} (h : BI n N gs bs) (hn : n ≤ 1000) (hN : N ≤ 5000000) (b : S35) (hb : b ∈ bs) : (-1000000000 ≤ b.f0 ∧ b.f0 ≤ 1000000000) ∧ (-1000000000 ≤ b.f1 ∧ b.f1 ≤ 1000000000) ∧ (-1000000000 ≤ b.f2 ∧ b.f2 ≤ 1000000000) ∧ (-1000000000 ≤ b.f3 ∧ b.f3 ≤ 1000000000) := by
  have := h.bd b hb
  omega
theorem rd35_mem {bs : List S35} {i : Int} (h0 : 0 ≤ i) (h : i < bs.length) : rd_T35 bs i ∈ bs := by
  unfold rd_T35
  rw [List.getD_eq_getElem?_getD, List.getElem?_eq_getElem (by omega)]
  exact List.getElem_mem _

/-- The search of a free column comes to LaySpec's. -/
theorem ref_find {n N : Nat} {gs : List (List Bool)} {bs : List S35} (hB : BI n N gs bs) (hn : n ≤ 1000) (hN : N ≤ 5000000) (hl : bs.length ≤ 4096) (rows : List (List S37)) (ov by_ : List Int) (al : Int) (r : Nat) (hr : r < n) (k0 hi wi th : Int) (R : List S35 × List Int × List Int) (d : Nat) : ∀ (e : Nat) (c : Nat) (i : Int), c + d = N → 0 ≤ i → i + e = bs.length → (∀ j : Nat, (j : Int) < i → j < bs.length → ¬ inP (rd_T35 bs j) r c) →
    Ev (fun k => beadleref22_Lay.l3 k rows bs ov by_ al r (findG gs r c : Nat) k0 hi wi th false 0 r (findG gs r c : Nat) th wi) R → Ev (fun k => beadleref22_Lay.l2 k rows bs ov by_ al r c k0 hi wi th i) R := by
  induction d using Nat.strongRecOn with
  | ind d ihd =>
    intro e
    induction e with
    | zero =>
      intro c i hc h0 hi' hf hE
      have hcov : covAt gs r c = false := by
        cases h : covAt gs r c with
        | false => rfl
        | true =>
          obtain ⟨b, hb, hin⟩ := (hB.cov r c hr).1 h
          obtain ⟨j, hj, rfl⟩ := List.getElem_of_mem hb
          refine absurd hin ?_
          have := hf j (by omega) hj
          unfold rd_T35 at this
          rw [List.getD_eq_getElem?_getD, show ((j : Int)).toNat = j from by omega, List.getElem?_eq_getElem hj] at this
          exact this
      rw [findG_stop hcov] at hE
      exact Ev.step (fun k => by simp only [beadleref22_Lay.l2]; rw [if_neg (by omega)]) hE
    | succ e ihe =>
      intro c i hc h0 hi' hf hE
      have hm := rd35_mem (bs := bs) h0 (by omega)
      obtain ⟨s0, s1, s2, s3⟩ := hB.small hn hN _ hm
      have hbd := hB.bd _ hm
      by_cases hin : inP (rd_T35 bs i) r c
      · have hin' := hin
        unfold inP at hin'
        obtain ⟨m, hm2⟩ : ∃ m : Nat, ((rd_T35 bs i).f1 + (rd_T35 bs i).f3) = ((c + m : Nat) : Int) := ⟨((rd_T35 bs i).f1 + (rd_T35 bs i).f3 - c).toNat, by omega⟩
        have hj := findG_jump (gs := gs) (r := r) m c (fun i' hi2 => (hB.cov r (c + i') hr).2 ⟨_, hm, by unfold inP; omega⟩)
        have hj1 : findG gs r (c + m) = findG gs r c := by
          rcases hj with hj | hj
          · exact hj.1
          · omega
        have hS := ihd (d - m) (by omega) bs.length (c + m) (-1 + 1) (by omega) (by omega) (by omega) (fun j hj' => by omega) (by rw [hj1]; exact hE)
        refine Ev.step (fun k => ?_) hS
        simp only [beadleref22_Lay.l2]
        rw [if_pos (by omega), if_pos h0, in_eq _ _ _ s0 s1 s2 s3]
        simp only [Option.bind_some]
        rw [if_pos (by simpa using hin), w64 (by omega) (by omega), hm2]
      · have hS := ihe c (i + 1) hc (by omega) (by omega) (fun j hj' hj2 => by
          by_cases e : (j : Int) = i
          · rw [e]; exact hin
          · exact hf j (by omega) hj2) hE
        refine Ev.step (fun k => ?_) hS
        simp only [beadleref22_Lay.l2]
        rw [if_pos (by omega), if_pos h0, in_eq _ _ _ s0 s1 s2 s3]
        simp only [Option.bind_some]
        rw [if_neg (by simpa using hin), w64 (by omega) (by omega)]

/-- The test for cells that lie over it. -/
theorem ref_hit {n N : Nat} {gs : List (List Bool)} {bs : List S35} (hB : BI n N gs bs) (hn : n ≤ 1000) (hN : N ≤ 5000000) (hl : bs.length ≤ 4096) (rows : List (List S37)) (ov by_ : List Int) (al r c k0 hi wi th : Int) (b : S35) (hb0 : -1000000000 ≤ b.f0 ∧ b.f0 ≤ 1000000000) (hb1 : -1000000000 ≤ b.f1 ∧ b.f1 ≤ 1000000000) (hb2 : -1000000000 ≤ b.f2 ∧ b.f2 ≤ 1000000000) (hb3 : -1000000000 ≤ b.f3 ∧ b.f3 ≤ 1000000000) (R : List S35 × List Int × List Int) (e : Nat) : ∀ (i : Int) (h : Bool), 0 ≤ i → i + e = bs.length →
    Ev (fun k => beadleref22_Lay.l3 k rows bs ov by_ al r c k0 hi wi th (h || (bs.drop i.toNat).any (fun o => decide (meets o b))) bs.length b.f0 b.f1 b.f2 b.f3) R → Ev (fun k => beadleref22_Lay.l3 k rows bs ov by_ al r c k0 hi wi th h i b.f0 b.f1 b.f2 b.f3) R := by
  induction e with
  | zero =>
    intro i h h0 hi' hE
    obtain rfl : i = bs.length := by omega
    rw [List.drop_eq_nil_of_le (by omega)] at hE
    simpa using hE
  | succ e ih =>
    intro i h h0 hi' hE
    have hm := rd35_mem (bs := bs) h0 (by omega)
    obtain ⟨s0, s1, s2, s3⟩ := hB.small hn hN _ hm
    have hd : bs.drop i.toNat = rd_T35 bs i :: bs.drop (i + 1).toNat := by
      rw [List.drop_eq_getElem_cons (by omega), show (i + 1).toNat = i.toNat + 1 from by omega]
      unfold rd_T35
      rw [List.getD_eq_getElem?_getD, List.getElem?_eq_getElem (by omega)]
      rfl
    rw [hd, List.any_cons, ← Bool.or_assoc] at hE
    have hS := ih (i + 1) _ (by omega) (by omega) hE
    refine Ev.step (fun k => ?_) hS
    simp only [beadleref22_Lay.l3]
    rw [if_pos (by omega), if_pos h0, w64 (n := i + 1) (by omega) (by omega), w64 (n := b.f0 + b.f2) (by omega) (by omega), w64 (n := b.f1 + b.f3) (by omega) (by omega), w64 (n := (rd_T35 bs i).f0 + (rd_T35 bs i).f2) (by omega) (by omega), w64 (n := (rd_T35 bs i).f1 + (rd_T35 bs i).f3) (by omega) (by omega)]
    cases h with
    | true => simp
    | false =>
      unfold meets
      by_cases a1 : (rd_T35 bs i).f0 < b.f0 + b.f2 <;> by_cases a2 : b.f0 < (rd_T35 bs i).f0 + (rd_T35 bs i).f2 <;> by_cases a3 : (rd_T35 bs i).f1 < b.f1 + b.f3 <;> simp [a1, a2, a3]

theorem RI.cell {n r : Nat} {x : S37} {s s' : LS} {bs : List S35} (h : RI n s bs) (hr : r < n) (hs : layCell n r x s = some s') : RI n s' (bs ++ [⟨r, findG s.gs r s.col, min (bnd x.f0) ((n : Int) - (r : Int)), bnd x.f1⟩]) := by
  have hlb := h.lb.cell hr hs
  obtain ⟨h1, h2⟩ := bnd_bd x.f0
  obtain ⟨h3, h4⟩ := bnd_bd x.f1
  have hf := findG_bd (r := r) h.lb.lens h.lb.col
  refine ⟨hlb, ?_, ?_⟩
  · unfold layCell at hs
    simp only at hs
    split at hs
    · simp at hs
    · obtain rfl := Option.some.inj hs
      simp only
      have hB := ((h.bi.mono (M := 1000 * (s.at_.length + 1)) (by omega)).lay r (findG s.gs r s.col) (bnd x.f1).toNat (min (bnd x.f0) ((n : Int) - (r : Int))).toNat (by omega) (by omega) (by omega) (by omega)).1
      rw [List.length_append, List.length_singleton]
      have e1 : (((min (bnd x.f0) ((n : Int) - (r : Int))).toNat : Nat) : Int) = min (bnd x.f0) ((n : Int) - (r : Int)) := by omega
      have e2 : (((bnd x.f1).toNat : Nat) : Int) = bnd x.f1 := by omega
      rw [e1, e2] at hB
      exact hB
  · unfold layCell at hs
    simp only at hs
    split at hs
    · simp at hs
    · obtain rfl := Option.some.inj hs
      simp only [List.map_append, List.map_cons, List.map_nil, ← h.at_]
      rfl

/-- One cell. -/
theorem ref_cell {n : Nat} (rows : List (List S37)) (hn : rows.length = n) (hn2 : n ≤ 1000) {s : LS} {bs : List S35} (h : RI n s bs) (r c : Nat) (hr : r < n) (hc : c < (rd_L4 rows r).length) (hcs : (rd_L4 rows r).length ≤ 1000) (R : List S35 × List Int × List Int) :
    match layCell n r (rd_T37 (rd_L4 rows r) c) s with
    | none => Ev (fun k => beadleref22_Lay.l1 k rows bs s.over s.beyond (4096 - s.left) r s.col c) (bs, s.over, s.beyond)
    | some s' => Ev (fun k => beadleref22_Lay.l1 k rows (bs ++ [⟨r, findG s.gs r s.col, min (bnd (rd_T37 (rd_L4 rows r) c).f0) ((n : Int) - (r : Int)), bnd (rd_T37 (rd_L4 rows r) c).f1⟩]) s'.over s'.beyond (4096 - s'.left) r s'.col ((c + 1 : Nat) : Int)) R → Ev (fun k => beadleref22_Lay.l1 k rows bs s.over s.beyond (4096 - s.left) r s.col c) R := by
  obtain ⟨x, hx⟩ : ∃ x, x = rd_T37 (rd_L4 rows r) c := ⟨_, rfl⟩
  rw [← hx]
  obtain ⟨h1, h2⟩ := bnd_bd x.f0
  obtain ⟨h3, h4⟩ := bnd_bd x.f1
  have hll := h.le
  have hlen := h.len
  have hsum := h.lb.sum
  have hleft := h.lb.left
  have hcol := h.lb.col
  have hov := h.lb.ov
  have hby := h.lb.by_
  have hf := findG_bd (r := r) h.lb.lens h.lb.col
  obtain ⟨th, hth⟩ : ∃ th, th = min (bnd x.f0) ((n : Int) - (r : Int)) := ⟨_, rfl⟩
  have hth1 : 1 ≤ th := by omega
  have hth2 : th ≤ 1000 := by omega
  have hm1 : 1 ≤ th * bnd x.f1 := by
    have := Int.mul_le_mul hth1 h3 (by omega) (by omega)
    omega
  have hm2 : th * bnd x.f1 ≤ 1000000 := by
    have := Int.mul_le_mul hth2 h4 (by omega) (by omega)
    omega
  -- up to the count of places
  have hj2 : ∀ R', Ev (fun k => beadleref22_Lay.j2 k rows bs s.over s.beyond (4096 - s.left) r s.col c (bnd x.f0) (bnd x.f1) th) R' → Ev (fun k => beadleref22_Lay.l1 k rows bs s.over s.beyond (4096 - s.left) r s.col c) R' := by
    intro R' hE
    refine Ev.step (fun k => ?_) hE
    simp only [beadleref22_Lay.l1]
    rw [if_pos (by omega), if_pos (by omega), if_pos (by omega), if_pos (by omega), ← hx, bound_eq, bound_eq]
    simp only [Option.bind_some]
    rw [w64 (by omega) (by omega), w64 (by omega) (by omega)]
    by_cases hq : (r : Int) + bnd x.f0 > (rows.length : Int)
    · rw [if_pos hq, show (rows.length : Int) - r = th from by omega]
    · rw [if_neg hq, show bnd x.f0 = th from by omega]
  unfold layCell
  simp only
  rw [← hth]
  by_cases hneg : s.left - th * bnd x.f1 < 0
  · rw [if_pos hneg]
    simp only
    refine hj2 _ (Ev.step (fun k => ?_) (Ev.now _))
    simp only [beadleref22_Lay.j2]
    rw [w64 (n := th * bnd x.f1) (by omega) (by omega), w64 (by omega) (by omega), if_pos (by omega)]
  · rw [if_neg hneg]
    simp only
    intro hE
    have hB := h.bi
    have hN : 1000 * s.at_.length ≤ 5000000 := by omega
    have hNr : s.col ≤ 1000 * s.at_.length := hcol
    refine hj2 _ (Ev.step (f := fun k => beadleref22_Lay.l2 k rows bs s.over s.beyond (4096 - s.left + th * bnd x.f1) r s.col c (bnd x.f0) (bnd x.f1) th 0) (fun k => ?_) ?_)
    · simp only [beadleref22_Lay.j2]
      rw [w64 (n := th * bnd x.f1) (by omega) (by omega), w64 (by omega) (by omega), if_neg (by omega)]
    · refine ref_find hB hn2 hN hll rows s.over s.beyond _ r hr c (bnd x.f0) (bnd x.f1) th R (1000 * s.at_.length - s.col) bs.length s.col 0 (by omega) (by omega) (by omega) (fun j hj => by omega) ?_
      refine ref_hit hB hn2 hN hll rows s.over s.beyond _ r (findG s.gs r s.col : Nat) c (bnd x.f0) (bnd x.f1) th ⟨r, (findG s.gs r s.col : Nat), th, bnd x.f1⟩ (by simp only; omega) (by simp only; omega) (by simp only; omega) (by simp only; omega) R bs.length 0 false (by omega) (by omega) ?_
      have hlay := (hB.lay r s.col (bnd x.f1).toNat th.toNat)
      have hov2 : (blk s.gs false r (findG s.gs r s.col) (bnd x.f1).toNat th.toNat).2 = (bs.any fun o => decide (meets o ⟨r, (findG s.gs r s.col : Nat), th, bnd x.f1⟩)) := by
        have := ((hB.mono (M := 1000 * (s.at_.length + 1)) (by omega)).lay r (findG s.gs r s.col) (bnd x.f1).toNat th.toNat (by omega) (by omega) (by omega) (by omega)).2
        rw [show ((th.toNat : Nat) : Int) = th from by omega, show (((bnd x.f1).toNat : Nat) : Int) = bnd x.f1 from by omega] at this
        rw [Bool.eq_iff_iff, this]
        simp
      refine Ev.step (fun k => ?_) hE
      simp only [Bool.false_or, Int.toNat_zero, List.drop_zero]
      rw [← hov2]
      simp only [beadleref22_Lay.l3]
      rw [if_neg (by omega), w64 (by omega) (by omega), w64 (by omega) (by omega)]
      have e1 : (findG s.gs r s.col : Int) + bnd x.f1 = ((findG s.gs r s.col + (bnd x.f1).toNat : Nat) : Int) := by omega
      have e2 : (c : Int) + 1 = ((c + 1 : Nat) : Int) := by omega
      have e3 : (4096 : Int) - (s.left - th * bnd x.f1) = 4096 - s.left + th * bnd x.f1 := by omega
      rw [e1, e2, e3, hlen]
      cases (blk s.gs false r (findG s.gs r s.col) (bnd x.f1).toNat th.toNat).2 with
      | true =>
        have q1 : s.over.length < 17592186044416 := by omega
        have q2 : s.beyond.length < 17592186044416 := by omega
        have q3 : bs.length < 4398046511104 := by omega
        by_cases hbe : th < bnd x.f0
        · simp only [if_true, q1, q2, q3, hbe, Option.bind_some]
        · simp only [if_true, q1, q2, q3, hbe, if_false, Option.bind_some]
      | false =>
        have q2 : s.beyond.length < 17592186044416 := by omega
        have q3 : bs.length < 4398046511104 := by omega
        by_cases hbe : th < bnd x.f0
        · simp only [if_true, q2, q3, hbe, Bool.false_eq_true, if_false]
        · simp only [if_true, q3, hbe, if_false, Bool.false_eq_true]

/-- A row's cells. -/
theorem ref_row {n : Nat} (rows : List (List S37)) (hn : rows.length = n) (hn2 : n ≤ 1000) (r : Nat) (hr : r < n) (hcs : (rd_L4 rows r).length ≤ 1000) (xs : List S37) : ∀ (c : Nat) (s : LS) (bs : List S35), RI n s bs → (rd_L4 rows r).drop c = xs →
    ∃ bs', RI n (layRow n r xs s).1 bs' ∧
    ((layRow n r xs s).2 = true → Ev (fun k => beadleref22_Lay.l1 k rows bs s.over s.beyond (4096 - s.left) r s.col c) (bs', (layRow n r xs s).1.over, (layRow n r xs s).1.beyond)) ∧
    ((layRow n r xs s).2 = false → ∀ R, Ev (fun k => beadleref22_Lay.l0 k rows bs' (layRow n r xs s).1.over (layRow n r xs s).1.beyond (4096 - (layRow n r xs s).1.left) ((r + 1 : Nat) : Int)) R → Ev (fun k => beadleref22_Lay.l1 k rows bs s.over s.beyond (4096 - s.left) r s.col c) R) := by
  induction xs with
  | nil =>
    intro c s bs h hx
    have hl : (rd_L4 rows r).length ≤ c := by simpa using hx
    refine ⟨bs, h, fun e => by simp [layRow] at e, fun _ R hE => Ev.step (fun k => ?_) hE⟩
    simp only [beadleref22_Lay.l1, layRow]
    rw [if_pos (by omega), if_pos (by omega), if_neg (by omega), w64 (by omega) (by omega)]
    rfl
  | cons x xs ih =>
    intro c s bs h hx
    have hl : c < (rd_L4 rows r).length := by
      apply Decidable.byContradiction
      intro hn
      rw [List.drop_eq_nil_of_le (by omega)] at hx
      cases hx
    rw [List.drop_eq_getElem_cons hl] at hx
    injection hx with hx1 hx2
    have hxr : rd_T37 (rd_L4 rows r) c = x := by
      unfold rd_T37
      rw [List.getD_eq_getElem?_getD, show ((c : Int)).toNat = c from by omega, List.getElem?_eq_getElem hl]
      exact hx1
    have hc := fun R => ref_cell rows hn hn2 h r c hr hl hcs R
    rw [hxr] at hc
    rw [layRow]
    cases e : layCell n r x s with
    | none =>
      rw [e] at hc
      simp only at hc ⊢
      exact ⟨bs, h, fun _ => hc ([], [], []), fun e => by simp at e⟩
    | some s' =>
      rw [e] at hc
      simp only at hc ⊢
      obtain ⟨bs', h1, h2, h3⟩ := ih (c + 1) s' _ (h.cell hr e) hx2
      exact ⟨bs', h1, fun e => hc _ (h2 e), fun e R hE => hc _ (h3 e R hE)⟩

/-- All rows. -/
theorem ref_rows {n : Nat} (rows : List (List S37)) (hn : rows.length = n) (hn2 : n ≤ 1000) (hcs : ∀ r : Nat, (rd_L4 rows r).length ≤ 1000) (ys : List (List S37)) : ∀ (r : Nat) (s : LS) (bs : List S35), RI n s bs → rows.drop r = ys →
    ∃ bs', RI n (layRows n ys r s) bs' ∧ Ev (fun k => beadleref22_Lay.l0 k rows bs s.over s.beyond (4096 - s.left) r) (bs', (layRows n ys r s).over, (layRows n ys r s).beyond) := by
  induction ys with
  | nil =>
    intro r s bs h hy
    have hl : rows.length ≤ r := by simpa using hy
    refine ⟨bs, h, Ev.step (fun k => ?_) (Ev.now _)⟩
    simp only [beadleref22_Lay.l0, layRows]
    rw [if_neg (by omega)]
  | cons y ys ih =>
    intro r s bs h hy
    have hl : r < rows.length := by
      apply Decidable.byContradiction
      intro hn
      rw [List.drop_eq_nil_of_le (by omega)] at hy
      cases hy
    rw [List.drop_eq_getElem_cons hl] at hy
    injection hy with hy1 hy2
    have hyr : rd_L4 rows r = y := by
      unfold rd_L4
      rw [List.getD_eq_getElem?_getD, show ((r : Int)).toNat = r from by omega, List.getElem?_eq_getElem hl]
      exact hy1
    have h0 : RI n { s with col := 0 } bs := ⟨⟨h.lb.len, h.lb.lens, by simp, h.lb.sum, h.lb.left, h.lb.ov, h.lb.by_⟩, h.bi, h.at_⟩
    obtain ⟨bs1, g1, g2, g3⟩ := ref_row rows hn hn2 r (by omega) (hcs r) y 0 { s with col := 0 } bs h0 (by rw [hyr]; rfl)
    rw [layRows]
    have hstep : ∀ R, Ev (fun k => beadleref22_Lay.l1 k rows bs s.over s.beyond (4096 - s.left) r ((0 : Nat) : Int) ((0 : Nat) : Int)) R → Ev (fun k => beadleref22_Lay.l0 k rows bs s.over s.beyond (4096 - s.left) r) R := by
      intro R hE
      refine Ev.step (fun k => ?_) hE
      simp only [beadleref22_Lay.l0]
      rw [if_pos (by omega)]
      rfl
    cases e : (layRow n r y { s with col := 0 }).2 with
    | true =>
      rw [if_pos rfl]
      exact ⟨bs1, g1, hstep _ (g2 e)⟩
    | false =>
      rw [if_neg (by simp)]
      obtain ⟨bs2, q1, q2⟩ := ih (r + 1) _ bs1 g1 hy2
      exact ⟨bs2, q1, hstep _ (g3 e _ q2)⟩

theorem ref_lay (rows : List (List S37)) (hn : rows.length ≤ 1000) (hcs : ∀ r : Nat, (rd_L4 rows r).length ≤ 1000) : ∃ bs, (laid rows).at_ = bs.map p33 ∧ bs.length ≤ 4096 ∧ (laid rows).over.length ≤ 4096 ∧ (laid rows).beyond.length ≤ 4096 ∧ Ev (fun k => beadleref22_Lay.f k rows) (bs, (laid rows).over, (laid rows).beyond) := by
  have h0 : RI rows.length (ls0 rows.length) [] := ⟨LB.start _, by simpa [ls0] using BI.start rows.length, rfl⟩
  obtain ⟨bs, h1, h2⟩ := ref_rows rows rfl hn hcs rows 0 (ls0 rows.length) [] h0 rfl
  have hle := h1.le
  have hlen := h1.len
  have ho := h1.lb.ov
  have hb := h1.lb.by_
  exact ⟨bs, h1.at_, hle, by unfold laid; omega, by unfold laid; omega, h2⟩
end Go.Proofs.Ytdekcbpngbgjmaa.PC
