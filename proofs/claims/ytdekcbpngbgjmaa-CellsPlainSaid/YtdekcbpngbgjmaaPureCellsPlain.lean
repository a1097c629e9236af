/- The plain law of CellsPlain: cells of one place each stand side by side. Conditions: those of the definition Ask. -/
import Derived.Test.YtdekcbpngbgjmaaAskCellsPlain
import Derived.Test.YtdekcbpngbgjmaaLayLaw
import Derived.Test.YtdekcbpngbgjmaaHLay
namespace Go.Proofs.Ytdekcbpngbgjmaa.Pure
open Go.RowKit Go.Proofs.Ytdekcbpngbgjmaa.PC Go.Proofs.YtdekcbpngbgjmaaW.PrintWords Go.Proofs.YtdekcbpngbgjmaaW.PrintLast

namespace Plain
theorem w64 {n : Int} (h0 : -9223372036854775808 ≤ n) (h1 : n ≤ 9223372036854775807) : wrap64 n = n := by unfold wrap64; omega
theorem i64_and31 (n : Int) : bits .and .i64 n 31 = n % 32 := by
  show IntKind.i64.wrap ((BitVec.ofInt 64 n &&& BitVec.ofInt 64 31).toNat : Int) = _
  have e : (BitVec.ofInt 64 n &&& BitVec.ofInt 64 31).toNat = (BitVec.ofInt 64 n).toNat % 2 ^ 5 := by
    rw [BitVec.toNat_and]
    exact Nat.and_two_pow_sub_one_eq_mod _ 5
  rw [e, IntKind.wrap_i64]
  have h2 : ((BitVec.ofInt 64 n).toNat : Int) = n % 18446744073709551616 := by
    rw [BitVec.toNat_ofInt]
    omega
  omega
def One (x : S37) : Prop := bnd x.f0 = 1 ∧ bnd x.f1 = 1
def seg (r k : Nat) : Nat → List S33
  | 0 => []
  | m + 1 => ⟨r, k, 1⟩ :: seg r (k + 1) m
def flat : Nat → List (List S37) → List S33
  | _, [] => []
  | r, row :: rows => seg r 0 row.length ++ flat (r + 1) rows
def cnt : List (List S37) → Nat
  | [] => 0
  | row :: rows => row.length + cnt rows
theorem seg_len (r k m : Nat) : (seg r k m).length = m := by
  induction m generalizing k with
  | zero => rfl
  | succ m ih => simp [seg, ih]
theorem flat_len (rows : List (List S37)) : ∀ r, (flat r rows).length = cnt rows := by
  induction rows with
  | nil => intro r; rfl
  | cons row rows ih => intro r; simp [flat, cnt, seg_len, ih]
theorem cnt_snoc (rows : List (List S37)) (row : List S37) : cnt (rows ++ [row]) = cnt rows + row.length := by
  induction rows with
  | nil => simp [cnt]
  | cons a rows ih => simp only [List.cons_append, cnt, ih]; omega

theorem cell_one {n r : Nat} {x : S37} {s : LS} (hx : One x) (hr : r < n) (hl : s.gs.length = n) (hc : covAt s.gs r s.col = false) (h1 : 1 ≤ s.left) (ho : s.over = []) (hb : s.beyond = []) :
    ∃ s', layCell n r x s = some s' ∧ s'.at_ = s.at_ ++ [⟨r, s.col, 1⟩] ∧ s'.over = [] ∧ s'.beyond = [] ∧ s'.left = s.left - 1 ∧ s'.col = s.col + 1 ∧ s'.gs.length = n ∧ ∀ r' c', covAt s'.gs r' c' = if r' = r ∧ c' = s.col then true else covAt s.gs r' c' := by
  obtain ⟨hx0, hx1⟩ := hx
  obtain ⟨g1, g2, g3⟩ := blk_cov s.gs r s.col 1 1 (by omega)
  have hov : (blk s.gs false r s.col 1 1).2 = false := by
    cases e : (blk s.gs false r s.col 1 1).2 with
    | false => rfl
    | true =>
      obtain ⟨i, j, hi, hj, h⟩ := g3.1 e
      obtain rfl : i = 0 := by omega
      obtain rfl : j = 0 := by omega
      rw [Nat.add_zero, Nat.add_zero, hc] at h
      cases h
  have hmin : min (1 : Int) ((n : Int) - r) = 1 := by omega
  unfold layCell
  simp only
  rw [hx0, hx1, hmin, if_neg (by omega), findG_stop hc]
  refine ⟨_, rfl, ?_⟩
  simp only [Int.toNat_one, hov, ho, hb, Bool.false_eq_true, if_false, Int.lt_irrefl, g1, hl, true_and]
  refine ⟨by omega, fun r' c' => ?_⟩
  rw [g2]
  by_cases e : r' = r ∧ c' = s.col
  · rw [if_pos (by omega), if_pos e]
  · rw [if_neg (by omega), if_neg e]

theorem row_one {n r : Nat} (hr : r < n) (xs : List S37) : ∀ (s : LS), (∀ x ∈ xs, One x) → s.gs.length = n → (∀ c', s.col ≤ c' → covAt s.gs r c' = false) → (xs.length : Int) ≤ s.left → s.over = [] → s.beyond = [] →
    (layRow n r xs s).2 = false ∧ (layRow n r xs s).1.at_ = s.at_ ++ seg r s.col xs.length ∧ (layRow n r xs s).1.over = [] ∧ (layRow n r xs s).1.beyond = [] ∧ (layRow n r xs s).1.left = s.left - xs.length ∧ (layRow n r xs s).1.gs.length = n ∧ ∀ r' c', r' ≠ r → covAt (layRow n r xs s).1.gs r' c' = covAt s.gs r' c' := by
  induction xs with
  | nil => exact fun s _ hl _ _ ho hb => ⟨rfl, by simp [layRow, seg], ho, hb, by simp [layRow], hl, fun _ _ _ => rfl⟩
  | cons x xs ih =>
    intro s hx hl hc hle ho hb
    rw [List.length_cons] at hle
    obtain ⟨s', e, h1, h2, h3, h4, h5, h6, h7⟩ := cell_one (hx x (by simp)) hr hl (hc _ (Nat.le_refl _)) (by omega) ho hb
    rw [layRow, e]
    simp only
    obtain ⟨g1, g2, g3, g4, g5, g6, g7⟩ := ih s' (fun y hy => hx y (by simp [hy])) h6 (fun c' hc' => by rw [h7, if_neg (by omega)]; exact hc c' (by omega)) (by omega) h2 h3
    refine ⟨g1, ?_, g3, g4, ?_, g6, fun r' c' hne => ?_⟩
    · rw [g2, h1, h5, List.length_cons, seg, List.append_assoc]; rfl
    · rw [g5, h4, List.length_cons]; omega
    · rw [g7 r' c' hne, h7, if_neg (by omega)]

theorem rows_one {n : Nat} (rows : List (List S37)) : ∀ (r : Nat) (s : LS), r + rows.length = n → (∀ row ∈ rows, ∀ x ∈ row, One x) → s.gs.length = n → (∀ r' c', r ≤ r' → covAt s.gs r' c' = false) → (cnt rows : Int) ≤ s.left → s.over = [] → s.beyond = [] →
    (layRows n rows r s).at_ = s.at_ ++ flat r rows ∧ (layRows n rows r s).over = [] ∧ (layRows n rows r s).beyond = [] := by
  induction rows with
  | nil => exact fun r s _ _ _ _ _ ho hb => ⟨by simp [layRows, flat], ho, hb⟩
  | cons row rows ih =>
    intro r s hn hx hl hc hle ho hb
    rw [List.length_cons] at hn
    rw [cnt] at hle
    obtain ⟨g1, g2, g3, g4, g5, g6, g7⟩ := row_one (n := n) (r := r) (by omega) row { s with col := 0 } (hx row (by simp)) hl (fun c' _ => hc r c' (Nat.le_refl _)) (by simp only; omega) ho hb
    rw [layRows, g1, if_neg (by simp)]
    obtain ⟨q1, q2, q3⟩ := ih (r + 1) _ (by omega) (fun y hy => hx y (by simp [hy])) g6 (fun r' c' hr' => by rw [g7 r' c' (by omega)]; exact hc r' c' (by omega)) (by rw [g5]; simp only; omega) g3 g4
    refine ⟨?_, q2, q3⟩
    rw [q1, g2, flat, List.append_assoc]
theorem laid_one (rows : List (List S37)) (hx : ∀ row ∈ rows, ∀ x ∈ row, One x) (hle : cnt rows ≤ 4096) : (laid rows).at_ = flat 0 rows ∧ (laid rows).over = [] ∧ (laid rows).beyond = [] := by
  have h := rows_one (n := rows.length) rows 0 (ls0 rows.length) (by omega) hx (by simp [ls0]) (fun r' c' _ => covAt_none _ _ _) (by simp only [ls0]; omega) rfl rfl
  unfold laid
  exact ⟨by rw [h.1]; simp [ls0], h.2.1, h.2.2⟩

theorem check_ev (R : List (List S37)) (at_ : List S33) (hl : at_.length ≤ 4096) (hR : R.length ≤ 60) (ys : List (List S37)) : ∀ (i n : Nat), i ≤ R.length → R.drop i = ys → at_.drop n = flat i ys → (∀ y ∈ R, y.length ≤ 31) → n ≤ at_.length → Ev (fun k => beadlelaw22_CellsPlain.l2 k R at_ n i) true := by
  induction ys with
  | nil =>
    intro i n hi0 hi hn _ hnl
    have : R.length ≤ i := by simpa using hi
    refine Ev.step (fun k => ?_) (Ev.now _)
    simp only [beadlelaw22_CellsPlain.l2]
    rw [if_neg (by omega)]
  | cons y ys ih =>
    intro i n hi0 hi hn h31 hnl
    have hil : i < R.length := by
      apply Decidable.byContradiction
      intro h
      rw [List.drop_eq_nil_of_le (by omega)] at hi
      cases hi
    rw [List.drop_eq_getElem_cons hil] at hi
    injection hi with hi1 hi2
    have hyr : rd_L4 R i = y := by
      unfold rd_L4
      rw [List.getD_eq_getElem?_getD, show ((i : Int)).toNat = i from by omega, List.getElem?_eq_getElem hil]
      exact hi1
    have hy31 : y.length ≤ 31 := h31 y (by rw [← hi1]; exact List.getElem_mem _)
    rw [flat] at hn
    have inner : ∀ (m c n' : Nat), c + m = y.length → n' ≤ at_.length → at_.drop n' = seg i c m ++ flat (i + 1) ys → Ev (fun k => beadlelaw22_CellsPlain.l3 k R at_ n' i c) true := by
      intro m
      induction m with
      | zero =>
        intro c n' hc hl2 hd
        have hS := ih (i + 1) n' (by omega) hi2 (by simpa [seg] using hd) h31 hl2
        refine Ev.step (fun k => ?_) hS
        simp only [beadlelaw22_CellsPlain.l3]
        rw [if_pos (by omega), if_pos (by omega), hyr, if_neg (by omega), w64 (by omega) (by omega)]
        rfl
      | succ m ihm =>
        intro c n' hc hl2 hd
        have hlt : n' < at_.length := by
          apply Decidable.byContradiction
          intro h
          rw [List.drop_eq_nil_of_le (by omega)] at hd
          simp [seg] at hd
        rw [List.drop_eq_getElem_cons hlt, seg, List.cons_append] at hd
        injection hd with hd1 hd2
        have hrd : rd_T33 at_ n' = ⟨i, c, 1⟩ := by
          unfold rd_T33
          rw [List.getD_eq_getElem?_getD, show ((n' : Int)).toNat = n' from by omega, List.getElem?_eq_getElem hlt]
          exact hd1
        have hS := ihm (c + 1) (n' + 1) (by omega) hlt hd2
        refine Ev.step (fun k => ?_) hS
        simp only [beadlelaw22_CellsPlain.l3]
        rw [if_pos (by omega), if_pos (by omega), hyr, if_pos (by omega), if_pos (by omega), if_pos (by omega), hrd, w64 (by omega) (by omega), w64 (by omega) (by omega)]
        simp
    refine Ev.step (fun k => ?_) (inner y.length 0 n (by omega) hnl hn)
    simp only [beadlelaw22_CellsPlain.l2]
    rw [if_pos (by omega)]
    rfl

structure Built (l0 : List Int) (R : List (List S37)) (i : Nat) : Prop where
  len : R.length = i
  i60 : i ≤ 60
  one : ∀ row ∈ R, ∀ x ∈ row, One x
  r31 : ∀ row ∈ R, row.length ≤ 31
  cn : cnt R ≤ 31 * i
theorem one_cell (k : Int) (hk : 0 ≤ k) : One ⟨wrap64 (1 - Int.tmod k 2), Int.tmod k 2⟩ := by
  have h := Int.tmod_nonneg 2 hk
  have h2 : Int.tmod k 2 < 2 := Int.tmod_lt_of_pos k (by omega)
  unfold One bnd
  simp only
  rw [w64 (by omega) (by omega)]
  refine ⟨?_, ?_⟩
  · split
    · rfl
    · rw [if_neg (by omega)]; omega
  · split
    · rfl
    · rw [if_neg (by omega)]; omega

theorem build_ev (l0 : List Int) (d : Nat) : ∀ (i : Nat) (R : List (List S37)), Built l0 R i → i + d = l0.length → Ev (fun k => beadlelaw22_CellsPlain.l0 k l0 R (cnt R) i) true := by
  induction d with
  | zero =>
    intro i R hB hd
    have hE : Ev (fun k => beadlelaw22_CellsPlain.j1 k l0 R (cnt R) i false) true := by
      have hcn := hB.cn
      have hi := hB.i60
      have hlen := hB.len
      obtain ⟨h1, h2, h3⟩ := laid_one R hB.one (by omega)
      have hfl := flat_len R 0
      have hck := check_ev R (flat 0 R) (by omega) (by omega) R 0 0 (by omega) rfl rfl hB.r31 (by omega)
      have hj : Ev (fun k => beadlelaw22_CellsPlain.j3 k R (flat 0 R) false) true := by
        refine Ev.step (fun k => ?_) hck
        simp only [beadlelaw22_CellsPlain.j3]
        rw [if_neg (by simp)]
        rfl
      refine Ev.step (fun k => ?_) hj
      simp only [beadlelaw22_CellsPlain.j1]
      rw [if_neg (by simp)]
      unfold cells_Lay.f
      rw [if_pos (by omega)]
      simp only [Option.bind_some, h1, h2, h3, List.length_nil]
      rw [if_pos (by omega), show ((wrap64 ((((0 : Nat) : Int)) + ((0 : Nat) : Int))) != 0) = false from by rw [w64 (by omega) (by omega)]; decide]
    refine Ev.step (fun k => ?_) hE
    simp only [beadlelaw22_CellsPlain.l0]
    rw [if_neg (by omega)]
  | succ d ih =>
    intro i R hB hd
    have hcn := hB.cn
    have hi := hB.i60
    have hlen := hB.len
    by_cases h60 : i < 60
    · obtain ⟨b, hb⟩ : ∃ b, b = bits .and .i64 (rd l0 i) 31 := ⟨_, rfl⟩
      have hb0 : 0 ≤ b ∧ b ≤ 31 := by rw [hb, i64_and31]; omega
      have inner : ∀ (m : Nat) (k : Nat) (x6 : List S37), (k : Int) + m = b → x6.length = k → (∀ x ∈ x6, One x) → Ev (fun q => beadlelaw22_CellsPlain.l1 q l0 R (cnt R) i x6 k) true := by
        intro m
        induction m with
        | zero =>
          intro k x6 hk hx hone
          have hB2 : Built l0 (R ++ [x6]) (i + 1) := ⟨by simp [hlen], by omega, fun row hr => by
            rcases List.mem_append.1 hr with h | h
            · exact hB.one row h
            · rw [List.mem_singleton] at h; subst h; exact hone, fun row hr => by
            rcases List.mem_append.1 hr with h | h
            · exact hB.r31 row h
            · rw [List.mem_singleton] at h; subst h; omega, by rw [cnt_snoc]; omega⟩
          have hS := ih (i + 1) _ hB2 (by omega)
          refine Ev.step (fun q => ?_) hS
          simp only [beadlelaw22_CellsPlain.l1]
          rw [if_pos (by omega), if_pos (by omega), ← hb, if_neg (by omega), if_pos (by omega), w64 (by omega) (by omega), w64 (by omega) (by omega), cnt_snoc]
          congr 1
        | succ m ihm =>
          intro k x6 hk hx hone
          have hS := ihm (k + 1) (x6 ++ [⟨wrap64 (1 - Int.tmod k 2), Int.tmod k 2⟩]) (by omega) (by simp [hx]) (fun x h => by
            rcases List.mem_append.1 h with h | h
            · exact hone x h
            · rw [List.mem_singleton] at h; subst h; exact one_cell k (by omega))
          refine Ev.step (fun q => ?_) hS
          simp only [beadlelaw22_CellsPlain.l1]
          rw [if_pos (by omega), if_pos (by omega), ← hb, if_pos (by omega), if_pos (by omega), w64 (n := (k : Int) + 1) (by omega) (by omega)]
          rfl
      have hS := inner b.toNat 0 [] (by omega) rfl (by simp)
      have hE : Ev (fun k => beadlelaw22_CellsPlain.j1 k l0 R (cnt R) i true) true := by
        refine Ev.step (fun k => ?_) hS
        simp only [beadlelaw22_CellsPlain.j1]
        rw [if_pos trivial]
        rfl
      refine Ev.step (fun k => ?_) hE
      simp only [beadlelaw22_CellsPlain.l0]
      rw [if_pos (by omega), decide_eq_true (by omega)]
    · have hE : Ev (fun k => beadlelaw22_CellsPlain.j1 k l0 R (cnt R) i false) true := by
        obtain ⟨h1, h2, h3⟩ := laid_one R hB.one (by omega)
        have hfl := flat_len R 0
        have hck := check_ev R (flat 0 R) (by omega) (by omega) R 0 0 (by omega) rfl rfl hB.r31 (by omega)
        have hj : Ev (fun k => beadlelaw22_CellsPlain.j3 k R (flat 0 R) false) true := by
          refine Ev.step (fun k => ?_) hck
          simp only [beadlelaw22_CellsPlain.j3]
          rw [if_neg (by simp)]
          rfl
        refine Ev.step (fun k => ?_) hj
        simp only [beadlelaw22_CellsPlain.j1]
        rw [if_neg (by simp)]
        unfold cells_Lay.f
        rw [if_pos (by omega)]
        simp only [Option.bind_some, h1, h2, h3, List.length_nil]
        rw [if_pos (by omega), show ((wrap64 ((((0 : Nat) : Int)) + ((0 : Nat) : Int))) != 0) = false from by rw [w64 (by omega) (by omega)]; decide]
      refine Ev.step (fun k => ?_) hE
      simp only [beadlelaw22_CellsPlain.l0]
      rw [if_pos (by omega), decide_eq_false (by omega)]
end Plain
theorem speaks_ok' : beadlelaw22_speaks.f = some true := by decide +kernel
theorem CellsPlain : beadlelaw22_CellsPlain.Ask := by
  intro l0 _ _
  refine Ev.rounds (g := fun k => beadlelaw22_CellsPlain.f k l0) ?_
  unfold beadlelaw22_CellsPlain.f
  rw [speaks_ok']
  simp only [Option.bind_some, if_true]
  exact Plain.build_ev l0 l0.length 0 [] ⟨rfl, by omega, by simp, by simp, by simp [Plain.cnt]⟩ (by omega)
end Go.Proofs.Ytdekcbpngbgjmaa.Pure
