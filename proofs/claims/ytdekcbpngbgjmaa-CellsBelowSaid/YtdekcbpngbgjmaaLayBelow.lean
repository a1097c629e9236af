/- What LaySpec lays of rows with others below: the cells above stand where they stood, and what was told of them is told. No program in sight. -/
import Derived.Test.YtdekcbpngbgjmaaLayOver
namespace Go.Proofs.Ytdekcbpngbgjmaa.PC
open Go.RowKit Go.Proofs.YtdekcbpngbgjmaaW.PrintWords Go.Proofs.YtdekcbpngbgjmaaW.PrintLast Go.Proofs.YtdekcbpngbgjmaaW.PrintMore

theorem findG_end (gs : List (List Bool)) (r : Nat) (d : Nat) : ∀ c, (gs.getD r []).length - c ≤ d → covAt gs r (findG gs r c) = false ∧ c ≤ findG gs r c ∧ ∀ i, c ≤ i → i < findG gs r c → covAt gs r i = true := by
  induction d with
  | zero =>
    intro c hd
    have h : covAt gs r c = false := by
      unfold covAt
      rw [List.getD_eq_getElem?_getD (l := gs.getD r []), List.getElem?_eq_none (by omega)]
      rfl
    rw [findG_stop h]
    exact ⟨h, Nat.le_refl _, fun i h1 h2 => by omega⟩
  | succ d ih =>
    intro c hd
    cases h : covAt gs r c with
    | false =>
      rw [findG_stop h]
      exact ⟨h, Nat.le_refl _, fun i h1 h2 => by omega⟩
    | true =>
      obtain ⟨h1, h2⟩ := findG_hop h
      obtain ⟨g1, g2, g3⟩ := ih (c + 1) (by omega)
      rw [h1] at g1 g2 g3
      refine ⟨g1, by omega, fun i hi1 hi2 => ?_⟩
      by_cases e : i = c
      · rw [e]; exact h
      · exact g3 i (by omega) hi2
theorem findG_same {gs gs' : List (List Bool)} {r : Nat} (h : ∀ c, covAt gs r c = covAt gs' r c) (c : Nat) : findG gs r c = findG gs' r c := by
  obtain ⟨a1, a2, a3⟩ := findG_end gs r _ c (Nat.le_refl _)
  obtain ⟨b1, b2, b3⟩ := findG_end gs' r _ c (Nat.le_refl _)
  rcases Nat.lt_trichotomy (findG gs r c) (findG gs' r c) with hl | hl | hl
  · have := b3 _ a2 hl
    rw [← h, a1] at this
    cases this
  · exact hl
  · have := a3 _ b2 hl
    rw [h, b1] at this
    cases this

theorem OI.cell' {n r : Nat} {x : S37} {s s' : LS} {vs : List S35} {pre : List S37} (h : OI n s vs pre) (hr : r < n) (hs : layCell n r x s = some s') : OI n s' (vs ++ [⟨r, findG s.gs r s.col, min (bnd x.f0) ((n : Int) - (r : Int)), bnd x.f1⟩]) (pre ++ [x]) := by
  have hlb := h.lb.cell hr hs
  obtain ⟨h1, h2⟩ := bnd_bd x.f0
  obtain ⟨h3, h4⟩ := bnd_bd x.f1
  have hf := findG_bd (r := r) h.lb.lens h.lb.col
  have hal : s.at_.length = vs.length := by rw [h.at_, List.length_map]
  obtain ⟨hB, hO⟩ := (h.bi.mono (M := 1000 * (s.at_.length + 1)) (by omega)).lay r (findG s.gs r s.col) (bnd x.f1).toNat (min (bnd x.f0) ((n : Int) - (r : Int))).toNat (by omega) (by omega) (by omega) (by omega)
  have e1 : (((min (bnd x.f0) ((n : Int) - (r : Int))).toNat : Nat) : Int) = min (bnd x.f0) ((n : Int) - (r : Int)) := by omega
  have e2 : (((bnd x.f1).toNat : Nat) : Int) = bnd x.f1 := by omega
  rw [e1, e2] at hB hO
  refine ⟨hlb, ?_, ?_, ?_, by simp [h.len], by simp [h.wide]⟩
  all_goals
    unfold layCell at hs
    simp only at hs
    split at hs
    · simp at hs
    · obtain rfl := Option.some.inj hs
      simp only
      first
        | (rw [List.length_append, List.length_singleton]; exact hB)
        | (rw [List.map_append, ← h.at_]; rfl)
        | (rw [overOf_snoc, ← h.ov, hal]
           by_cases e : (blk s.gs false r (findG s.gs r s.col) (bnd x.f1).toNat (min (bnd x.f0) ((n : Int) - (r : Int))).toNat).2 = true
           · rw [if_pos e, if_pos]
             have := hO.1 e
             simpa using this
           · rw [if_neg e, if_neg, List.append_nil]
             intro h2
             exact e (hO.2 (by simpa using h2)))

/-- Two blocks of one cell, the one cut at n1 rows, the other at n2. -/
def Tw (n1 n2 : Nat) (r : Nat) (a b : S35) : Prop := a.f0 = b.f0 ∧ a.f1 = b.f1 ∧ a.f3 = b.f3 ∧ a.f0 ≤ r ∧ ∃ h : Int, 1 ≤ h ∧ a.f2 = min h ((n1 : Int) - a.f0) ∧ b.f2 = min h ((n2 : Int) - a.f0)
/-- The same cells, one behind the other. -/
inductive TwL (n1 n2 r : Nat) : List S35 → List S35 → Prop
  | nil : TwL n1 n2 r [] []
  | snoc {us vs : List S35} {a b : S35} : TwL n1 n2 r us vs → Tw n1 n2 r a b → TwL n1 n2 r (us ++ [a]) (vs ++ [b])
theorem TwL.len {n1 n2 r : Nat} {us vs : List S35} (h : TwL n1 n2 r us vs) : us.length = vs.length := by
  induction h with
  | nil => rfl
  | snoc _ _ ih => simp [ih]
theorem Tw.later {n1 n2 r r' : Nat} {a b : S35} (h : Tw n1 n2 r a b) (hr : r ≤ r') : Tw n1 n2 r' a b := by
  obtain ⟨h1, h2, h3, h4, h5⟩ := h
  exact ⟨h1, h2, h3, by omega, h5⟩
theorem TwL.later {n1 n2 r r' : Nat} {us vs : List S35} (h : TwL n1 n2 r us vs) (hr : r ≤ r') : TwL n1 n2 r' us vs := by
  induction h with
  | nil => exact .nil
  | snoc _ ht ih => exact .snoc ih (ht.later hr)
theorem Tw.inP {n1 n2 r : Nat} {a b : S35} (h : Tw n1 n2 r a b) (hn : n1 ≤ n2) (r' c' : Int) (hr : r' < n1) : inP a r' c' ↔ inP b r' c' := by
  obtain ⟨h1, h2, h3, h4, q, h5, h6, h7⟩ := h
  unfold PC.inP
  rw [h6, h7, ← h1, ← h2, ← h3]
  omega
theorem TwL.inP {n1 n2 r : Nat} {us vs : List S35} (h : TwL n1 n2 r us vs) (hn : n1 ≤ n2) (r' c' : Int) (hr : r' < n1) : (∃ o ∈ us, PC.inP o r' c') ↔ (∃ o ∈ vs, PC.inP o r' c') := by
  induction h with
  | nil => simp
  | snoc _ ht ih =>
    simp only [List.mem_append, List.mem_singleton]
    constructor
    · rintro ⟨o, ho | rfl, hi⟩
      · obtain ⟨o', ho', hi'⟩ := ih.1 ⟨o, ho, hi⟩
        exact ⟨o', .inl ho', hi'⟩
      · exact ⟨_, .inr rfl, (ht.inP hn r' c' hr).1 hi⟩
    · rintro ⟨o, ho | rfl, hi⟩
      · obtain ⟨o', ho', hi'⟩ := ih.2 ⟨o, ho, hi⟩
        exact ⟨o', .inl ho', hi'⟩
      · exact ⟨_, .inr rfl, (ht.inP hn r' c' hr).2 hi⟩
theorem Tw.meets {n1 n2 r : Nat} {a b a' b' : S35} (h : Tw n1 n2 r a b) (h' : Tw n1 n2 r a' b') (hn : n1 ≤ n2) (hr : r < n1) (hr' : a'.f0 = r) : decide (meets a a') = decide (meets b b') := by
  obtain ⟨h1, h2, h3, h4, q, h5, h6, h7⟩ := h
  obtain ⟨g1, g2, g3, g4, q', g5, g6, g7⟩ := h'
  refine decide_eq_decide.2 ?_
  unfold PC.meets
  rw [h6, h7, g6, g7, ← h1, ← h2, ← h3, ← g1, ← g2, ← g3]
  omega
theorem TwL.any {n1 n2 r : Nat} {us vs : List S35} (h : TwL n1 n2 r us vs) {a b : S35} (ht : Tw n1 n2 r a b) (hn : n1 ≤ n2) (hr : r < n1) (hr' : a.f0 = r) : (us.any fun o => decide (PC.meets o a)) = (vs.any fun o => decide (PC.meets o b)) := by
  induction h with
  | nil => rfl
  | snoc _ ht2 ih => simp only [List.any_append, List.any_cons, List.any_nil, ih, ht2.meets ht hn hr hr']
theorem TwL.get {n1 n2 r : Nat} {us vs : List S35} (h : TwL n1 n2 r us vs) (hn : n1 ≤ n2) (i : Nat) (a b : S35) (ha : us[i]? = some a) (hb : vs[i]? = some b) : a.f0 = b.f0 ∧ a.f1 = b.f1 ∧ a.f2 ≤ b.f2 := by
  induction h with
  | nil => simp at ha
  | snoc hl ht ih =>
    rename_i us vs a' b'
    have hlen := hl.len
    by_cases hi : i < us.length
    · rw [List.getElem?_append_left hi] at ha
      rw [List.getElem?_append_left (by omega)] at hb
      exact ih ha hb
    · have hi2 : i = us.length := by
        have := (List.getElem?_eq_some_iff.1 ha).1
        simp only [List.length_append, List.length_singleton] at this
        omega
      subst hi2
      rw [List.getElem?_append_right (Nat.le_refl _), Nat.sub_self] at ha
      rw [List.getElem?_append_right (by omega), show us.length - vs.length = 0 from by omega] at hb
      obtain rfl : a' = a := by simpa using ha
      obtain rfl : b' = b := by simpa using hb
      obtain ⟨h1, h2, h3, h4, q, h5, h6, h7⟩ := ht
      exact ⟨h1, h2, by rw [h6, h7]; omega⟩

/-- The two runs stand alike. -/
structure JI (n1 n2 r : Nat) (s1 s2 : LS) (b1 b2 : List S35) (pre : List S37) : Prop where
  o1 : OI n1 s1 b1 pre
  o2 : OI n2 s2 b2 pre
  tw : TwL n1 n2 r b1 b2
  col : s1.col = s2.col
  ov : s1.over = s2.over
theorem JI.cov {n1 n2 r : Nat} {s1 s2 : LS} {b1 b2 : List S35} {pre : List S37} (h : JI n1 n2 r s1 s2 b1 b2 pre) (hn : n1 ≤ n2) (r' c : Nat) (hr : r' < n1) : covAt s1.gs r' c = covAt s2.gs r' c := by
  rw [Bool.eq_iff_iff, h.o1.bi.cov r' c hr, h.o2.bi.cov r' c (by omega)]
  exact h.tw.inP hn r' c (by omega)
theorem layCell_eq {n r : Nat} {x : S37} {s s' : LS} (hs : layCell n r x s = some s') : s'.col = findG s.gs r s.col + (bnd x.f1).toNat ∧ s'.at_.length = s.at_.length + 1 ∧ s.at_ <+: s'.at_ ∧ s.over <+: s'.over := by
  unfold layCell at hs
  simp only at hs
  split at hs
  · simp at hs
  · obtain rfl := Option.some.inj hs
    refine ⟨rfl, by simp, List.prefix_append _ _, ?_⟩
    simp only
    split
    · exact List.prefix_append _ _
    · exact List.prefix_refl _
theorem JI.cell {n1 n2 r : Nat} {s1 s2 t1 t2 : LS} {b1 b2 : List S35} {pre : List S37} {x : S37} (h : JI n1 n2 r s1 s2 b1 b2 pre) (hn : n1 ≤ n2) (hr : r < n1) (e1 : layCell n1 r x s1 = some t1) (e2 : layCell n2 r x s2 = some t2) : ∃ c1 c2, JI n1 n2 r t1 t2 c1 c2 (pre ++ [x]) := by
  have hf : findG s1.gs r s1.col = findG s2.gs r s2.col := by
    rw [h.col]
    exact findG_same (fun c => h.cov hn r c hr) _
  have q1 := h.o1.cell' hr e1
  have q2 := h.o2.cell' (by omega) e2
  have ht : Tw n1 n2 r ⟨r, findG s1.gs r s1.col, min (bnd x.f0) ((n1 : Int) - (r : Int)), bnd x.f1⟩ ⟨r, findG s2.gs r s2.col, min (bnd x.f0) ((n2 : Int) - (r : Int)), bnd x.f1⟩ := by
    refine ⟨rfl, by rw [hf], rfl, Int.le_refl _, bnd x.f0, (bnd_bd x.f0).1, rfl, rfl⟩
  refine ⟨_, _, q1, q2, .snoc h.tw ht, ?_, ?_⟩
  · rw [(layCell_eq e1).1, (layCell_eq e2).1, hf]
  · rw [q1.ov, q2.ov, overOf_snoc, overOf_snoc, ← h.o1.ov, ← h.o2.ov, h.ov, h.tw.any ht hn hr rfl, h.tw.len]
theorem OI.atlen {n : Nat} {s : LS} {vs : List S35} {pre : List S37} (h : OI n s vs pre) : s.at_.length = pre.length := by rw [h.at_, List.length_map, h.len]
theorem JI.row {n1 n2 r : Nat} (hn : n1 ≤ n2) (hr : r < n1) (xs : List S37) : ∀ (s1 s2 : LS) (b1 b2 : List S35) (pre : List S37), JI n1 n2 r s1 s2 b1 b2 pre →
    ((layRow n1 r xs s1).2 = false ∧ (layRow n2 r xs s2).2 = false ∧ ∃ c1 c2, JI n1 n2 r (layRow n1 r xs s1).1 (layRow n2 r xs s2).1 c1 c2 (pre ++ xs)) ∨
    ((layRow n1 r xs s1).2 = true ∧ (layRow n1 r xs s1).1.at_.length < pre.length + xs.length) ∨
    ((layRow n2 r xs s2).2 = true ∧ (layRow n2 r xs s2).1.at_.length < pre.length + xs.length) := by
  induction xs with
  | nil => exact fun s1 s2 b1 b2 pre h => .inl ⟨rfl, rfl, b1, b2, by simpa [layRow] using h⟩
  | cons x xs ih =>
    intro s1 s2 b1 b2 pre h
    cases e1 : layCell n1 r x s1 with
    | none =>
      refine .inr (.inl ?_)
      rw [layRow, e1]
      exact ⟨rfl, by simp only [h.o1.atlen, List.length_cons]; omega⟩
    | some t1 =>
      cases e2 : layCell n2 r x s2 with
      | none =>
        refine .inr (.inr ?_)
        rw [layRow, e2]
        exact ⟨rfl, by simp only [h.o2.atlen, List.length_cons]; omega⟩
      | some t2 =>
        obtain ⟨c1, c2, h'⟩ := h.cell hn hr e1 e2
        have := ih t1 t2 c1 c2 _ h'
        rw [List.append_assoc, List.length_append] at this
        rw [layRow, layRow, e1, e2]
        simp only [List.length_cons, List.length_nil, List.singleton_append] at this ⊢
        rw [show pre.length + (xs.length + 1) = pre.length + (0 + 1) + xs.length from by omega]
        exact this
theorem JI.rows {n1 n2 : Nat} (hn : n1 ≤ n2) (more : List (List S37)) (rs : List (List S37)) : ∀ (r : Nat) (s1 s2 : LS) (b1 b2 : List S35) (pre : List S37), JI n1 n2 r s1 s2 b1 b2 pre → r + rs.length ≤ n1 →
    (∃ r' t2 c1 c2, layRows n2 (rs ++ more) r s2 = layRows n2 more r' t2 ∧ JI n1 n2 r' (layRows n1 rs r s1) t2 c1 c2 (pre ++ flatten rs)) ∨
    ((layRows n1 rs r s1).at_.length < pre.length + cells rs) ∨ ((layRows n2 (rs ++ more) r s2).at_.length < pre.length + cells rs) := by
  induction rs with
  | nil => exact fun r s1 s2 b1 b2 pre h _ => .inl ⟨r, s2, b1, b2, rfl, by simpa [layRows, flatten] using h⟩
  | cons row rs ih =>
    intro r s1 s2 b1 b2 pre h hr
    rw [List.length_cons] at hr
    have h0 : JI n1 n2 r { s1 with col := 0 } { s2 with col := 0 } b1 b2 pre :=
      ⟨⟨⟨h.o1.lb.len, h.o1.lb.lens, by simp, h.o1.lb.sum, h.o1.lb.left, h.o1.lb.ov, h.o1.lb.by_⟩, h.o1.bi, h.o1.at_, h.o1.ov, h.o1.len, h.o1.wide⟩,
       ⟨⟨h.o2.lb.len, h.o2.lb.lens, by simp, h.o2.lb.sum, h.o2.lb.left, h.o2.lb.ov, h.o2.lb.by_⟩, h.o2.bi, h.o2.at_, h.o2.ov, h.o2.len, h.o2.wide⟩, h.tw, rfl, h.ov⟩
    rw [List.cons_append, layRows, layRows, cells]
    rcases JI.row hn (by omega) row _ _ _ _ _ h0 with ⟨e1, e2, c1, c2, h1⟩ | ⟨e1, hl⟩ | ⟨e2, hl⟩
    · rw [e1, e2, if_neg (by simp), if_neg (by simp)]
      have h1' : JI n1 n2 (r + 1) _ _ c1 c2 _ := ⟨h1.o1, h1.o2, h1.tw.later (Nat.le_succ r), h1.col, h1.ov⟩
      have := ih (r + 1) _ _ c1 c2 _ h1' (by omega)
      rw [List.append_assoc, List.length_append] at this
      rw [flatten, show pre.length + (row.length + cells rs) = pre.length + row.length + cells rs from by omega]
      exact this
    · rw [e1, if_pos rfl]
      exact .inr (.inl (by omega))
    · rw [e2, if_pos rfl]
      exact .inr (.inr (by omega))
theorem layRow_pre {n r : Nat} (xs : List S37) : ∀ s : LS, s.at_ <+: (layRow n r xs s).1.at_ ∧ s.over <+: (layRow n r xs s).1.over := by
  induction xs with
  | nil => exact fun s => ⟨List.prefix_refl _, List.prefix_refl _⟩
  | cons x xs ih =>
    intro s
    rw [layRow]
    cases e : layCell n r x s with
    | none => exact ⟨List.prefix_refl _, List.prefix_refl _⟩
    | some s' =>
      obtain ⟨_, _, h1, h2⟩ := layCell_eq e
      exact ⟨h1.trans (ih s').1, h2.trans (ih s').2⟩
theorem layRows_pre {n : Nat} (rs : List (List S37)) : ∀ (r : Nat) (s : LS), s.at_ <+: (layRows n rs r s).at_ ∧ s.over <+: (layRows n rs r s).over := by
  induction rs with
  | nil => exact fun r s => ⟨List.prefix_refl _, List.prefix_refl _⟩
  | cons row rs ih =>
    intro r s
    rw [layRows]
    have h := layRow_pre (n := n) (r := r) row { s with col := 0 }
    split
    · exact h
    · exact ⟨h.1.trans (ih _ _).1, h.2.trans (ih _ _).2⟩
/-- What CellsBelow asks. -/
theorem laid_below (rows more : List (List S37)) : (laid rows).at_.length < cells rows ∨ (laid (rows ++ more)).at_.length < cells rows ∨
    ((∀ i : Nat, i < cells rows → (rd_T33 (laid rows).at_ (i : Int)).f0 = (rd_T33 (laid (rows ++ more)).at_ (i : Int)).f0 ∧ (rd_T33 (laid rows).at_ (i : Int)).f1 = (rd_T33 (laid (rows ++ more)).at_ (i : Int)).f1 ∧ (rd_T33 (laid rows).at_ (i : Int)).f2 ≤ (rd_T33 (laid (rows ++ more)).at_ (i : Int)).f2) ∧ (laid rows).over <+: (laid (rows ++ more)).over ∧ cells rows ≤ (laid rows).at_.length ∧ cells rows ≤ (laid (rows ++ more)).at_.length) := by
  have hle : rows.length ≤ (rows ++ more).length := by simp
  have h0 : JI rows.length (rows ++ more).length 0 (ls0 rows.length) (ls0 (rows ++ more).length) [] [] [] :=
    ⟨⟨LB.start _, by simpa [ls0] using BI.start rows.length, rfl, rfl, rfl, rfl⟩, ⟨LB.start _, by simpa [ls0] using BI.start (rows ++ more).length, rfl, rfl, rfl, rfl⟩, .nil, rfl, rfl⟩
  rcases JI.rows hle more rows 0 _ _ _ _ _ h0 (by omega) with ⟨r', t2, c1, c2, e, h⟩ | h | h
  · refine .inr (.inr ?_)
    have hp := layRows_pre (n := (rows ++ more).length) more r' t2
    rw [← e] at hp
    have l1 : (laid rows).at_.length = cells rows := by
      have := h.o1.atlen
      rw [List.nil_append, flatten_len] at this
      exact this
    have l2 : t2.at_.length = cells rows := by
      have := h.o2.atlen
      rw [List.nil_append, flatten_len] at this
      exact this
    have hc1 : c1.length = cells rows := by rw [← h.o1.len, List.nil_append, flatten_len]
    have hc2 : c2.length = cells rows := by rw [← h.o2.len, List.nil_append, flatten_len]
    refine ⟨fun i hi => ?_, ?_, by omega, ?_⟩
    · have hg := h.tw.get hle i c1[i] c2[i] (List.getElem?_eq_getElem (by omega)) (List.getElem?_eq_getElem (by omega))
      have r1 : rd_T33 (laid rows).at_ (i : Int) = p33 c1[i] := by
        have ha : (laid rows).at_ = c1.map p33 := h.o1.at_
        unfold rd_T33
        rw [ha, List.getD_eq_getElem?_getD, Int.toNat_natCast, List.getElem?_map, List.getElem?_eq_getElem (by omega)]
        rfl
      have r2 : rd_T33 (laid (rows ++ more)).at_ (i : Int) = p33 c2[i] := by
        obtain ⟨q, hq⟩ := hp.1
        have hq' : t2.at_ ++ q = (laid (rows ++ more)).at_ := hq
        unfold rd_T33
        rw [← hq', List.getD_eq_getElem?_getD, Int.toNat_natCast, List.getElem?_append_left (by omega), h.o2.at_, List.getElem?_map, List.getElem?_eq_getElem (by omega)]
        rfl
      rw [r1, r2]
      exact hg
    · have : (laid rows).over = t2.over := h.ov
      rw [this]
      exact hp.2
    · have := hp.1.length_le
      rw [l2] at this
      exact this
  · rw [List.length_nil, Nat.zero_add] at h
    exact .inl h
  · rw [List.length_nil, Nat.zero_add] at h
    exact .inr (.inl h)
end Go.Proofs.Ytdekcbpngbgjmaa.PC
