/- cells.grid.cover and cells.grid.block at any grid of the call's own: what they answer, and which places are covered behind them. Conditions: those of each statement. -/
import Derived.Test.YtdekcbpngbgjmaaGrid
import Derived.Test.YtdekcbpngbgjmaaPCx2
import Derived.Test.YtdekcbpngbgjmaaLaySpec
namespace Go.Proofs.Ytdekcbpngbgjmaa.PC
open Go.RowKit Go.Proofs.YtdekcbpngbgjmaaW.PrintWords Go.Proofs.YtdekcbpngbgjmaaW.PrintLast Go.Proofs.YtdekcbpngbgjmaaW.PrintMore

theorem infoB4 : (Try.prog.info? 4).map (fun i => (i.zero, i.size, i.bytes)) = some (some (.bool false), 1, 1) := by kernel_rfl

/-- A bool is stored into one of the rows. -/
theorem Grid.put {w : World} {base gb row g cap : Nat} {gs : List (List Bool)} {vs : List Value} {l : List Bool} (h : Grid w base gb gs vs) (hv : vs[row]? = some (.slice (some ⟨g, 0, none⟩) l.length cap)) (hl : gs[row]? = some l) (j : Nat) (b : Bool) :
    Grid (w.setCell ⟨g, j, none⟩ (.bool b)) base gb (gs.set row (l.set j b)) vs ∧ GFr w (w.setCell ⟨g, j, none⟩ (.bool b)) gb vs vs := by
  have hgg : g ≠ gb := h.far row _ g hv rfl
  have hother : ∀ k, k ≠ g → (w.setCell ⟨g, j, none⟩ (.bool b)).heap[k]? = w.heap[k]? := fun k hk => heap_setCell_other _ _ _ _ hk
  obtain ⟨ho, _⟩ := (h.own row _ l hv hl).stored j (.bool b)
  have hrow : row < gs.length := (List.getElem?_eq_some_iff.1 hl).1
  refine ⟨⟨(hother gb (fun e => hgg e.symm)).trans h.blk, by simp [h.len], h.low, ?_, h.far, h.apart⟩, ⟨rfl, rfl, rfl, by simp, fun k _ _ hk => hother k (fun e => hk row _ hv (by rw [e]; rfl)), fun i v k hi hk => .inl ⟨i, v, hi, hk⟩⟩⟩
  intro i u q hi hq
  by_cases e : i = row
  · subst e
    rw [List.getElem?_set_self hrow] at hq
    obtain rfl : l.set j b = q := by simpa using hq
    rw [hv] at hi
    obtain rfl : Value.slice (some ⟨g, 0, none⟩) l.length cap = u := by simpa using hi
    have : bools (l.set j b) = (bools l).set j (.bool b) := by simp [bools, List.map_set]
    rw [this, List.length_set]
    exact ho
  · rw [List.getElem?_set_ne (fun h => e h.symm)] at hq
    refine own_move (h.own i u q hi hq) (fun k hk => hother k (fun e2 => ?_))
    subst e2
    exact h.apart row i _ u k hv hi (fun h => e h.symm) rfl hk

theorem Grid.drewN {w : World} {base gb : Nat} {gs : List (List Bool)} {vs : List Value} (h : Grid w base gb gs vs) (n : Nat) : Grid (w.drewN n) base gb gs vs :=
  ⟨h.blk, h.len, h.low, fun i v g hi hg => own_move (h.own i v g hi hg) (fun _ _ => rfl), h.far, h.apart⟩
theorem set_self {α : Type} (xs : List α) (i : Nat) (x : α) (h : xs[i]? = some x) : xs.set i x = xs := by
  apply List.ext_getElem?
  intro j
  by_cases e : i = j
  · subst e
    rw [List.getElem?_set_self (List.getElem?_eq_some_iff.1 h).1, h]
  · rw [List.getElem?_set_ne e]
theorem covered_eq (gs : List (List Bool)) (row col : Int) (hr0 : 0 ≤ row) (hr1 : row < gs.length) (hc0 : 0 ≤ col) : cells_grid_covered.f gs row col = some (covAt gs row.toNat col.toNat) := by
  unfold cells_grid_covered.f covAt
  rw [if_pos hr0, if_pos hr1]
  have e : rd_L1 gs row = gs.getD row.toNat [] := rfl
  rw [e]
  by_cases h : col < ((gs.getD row.toNat []).length : Int)
  · rw [if_pos h, if_pos hc0]
    rfl
  · rw [if_neg h, List.getD_eq_getElem?_getD (l := gs.getD row.toNat []), List.getElem?_eq_none (by omega)]
    rfl

theorem bools_snoc (l : List Bool) (b : Bool) : bools (l ++ [b]) = bools l ++ [.bool b] := by simp [bools]
theorem rep_snoc (l : List Bool) (m : Nat) : l ++ List.replicate (m + 1) false = (l ++ List.replicate m false) ++ [false] := by
  rw [List.replicate_succ', List.append_assoc]

set_option maxRecDepth 100000 in
set_option maxHeartbeats 4000000 in
theorem cover_calls (gs : List (List Bool)) (vs : List Value) (base gb c : Nat) (row col : Int) (w : World) (hg : Grid w base gb gs vs) (hn : gs.length ≤ c) (hn2 : gs.length ≤ 9223372036854775807)
    (hr0 : 0 ≤ row) (hr1 : row < gs.length) (hc0 : 0 ≤ col) (hc1 : col ≤ 10000000) :
    Calls Try.prog 17 #[.slice (some ⟨gb, 0, none⟩) gs.length c, .int .i64 row, .int .i64 col] w fun e w' => e = .returned (.bool (covAt gs row.toNat col.toNat)) ∧ ∃ vs', Grid w' base gb (setG gs row.toNat col.toNat) vs' ∧ GFr w w' gb vs vs' := by
  have HG := Aside0.mk hg
  have hcov := cells_grid_covered.calls (some ⟨gb, 0, none⟩) c gs row col _ w (hg.reads hn2) hn (covered_eq gs row col hr0 hr1 hc0)
  have HC := Aside0.mk hcov
  obtain ⟨l, hl⟩ : ∃ l, gs[row.toNat]? = some l := ⟨_, List.getElem?_eq_getElem (by omega)⟩
  have hl2 : gs.getD row.toNat [] = l := by rw [List.getD_eq_getElem?_getD, hl]; rfl
  have HL := Aside0.mk hl
  have HL2 := Aside0.mk hl2
  obtain ⟨was, hwas⟩ : ∃ was, was = covAt gs row.toNat col.toNat := ⟨_, rfl⟩
  rw [← hwas] at HC ⊢
  have HR := Aside0.mk (And.intro hr0 (And.intro hr1 (And.intro hc0 hc1)))
  have hq0 := eq_true hr0
  have hq1 := eq_true hr1
  clear hg hcov hl hl2 hwas
  go_enter Try.func17, Try.ntmps17
  go_wp2_with fail
  refine HC.out.mono ?_
  rintro e w1 ⟨rfl, hd⟩
  obtain ⟨q, rfl⟩ := hd.out
  clear hd
  go_wp2_with fail
  go_loopg [12] (col.toNat + 1) (fun kq _ w' => ∃ (m : Nat) (vs' : List Value), Aside0 (Grid w' base gb (gs.set row.toNat (l ++ List.replicate m false)) vs') ∧ Aside0 (GFr w w' gb vs vs') ∧ Aside0 (m = 0 ∨ l.length + m ≤ col.toNat + 1) ∧ Aside0 (kq + m = col.toNat + 1))
  case atStart =>
    refine ⟨0, vs, ⟨?_⟩, ⟨(GFr.refl w gb vs).drewN q⟩, ⟨.inl rfl⟩, ⟨rfl⟩⟩
    rw [List.replicate_zero, List.append_nil, set_self gs _ l HL.out]
    exact HG.out.drewN q
  case round =>
    obtain ⟨m, vs', HG1, HF, HM, HK⟩ := hrel
    obtain ⟨l', hl'⟩ : ∃ l', l' = l ++ List.replicate m false := ⟨_, rfl⟩
    have hlen : l'.length = l.length + m := by rw [hl']; simp
    have hgl : (gs.set row.toNat l')[row.toNat]? = some l' := List.getElem?_set_self (by have := HR.out.2.1; have := HR.out.1; omega)
    have hgl2 : (gs.set row.toNat l').length = gs.length := by simp
    rw [← hl'] at HG1
    have hrv : row.toNat < vs'.length := by rw [HG1.out.len, hgl2]; have := HR.out.2.1; have := HR.out.1; omega
    obtain ⟨v, hv⟩ : ∃ v, vs'[row.toNat]? = some v := ⟨_, List.getElem?_eq_getElem hrv⟩
    have ho := HG1.out.own _ v l' hv hgl
    obtain ⟨A, cc, rfl⟩ := own_slice ho
    have HO := Aside0.mk ho
    have HV := Aside0.mk hv
    have HL' := Aside0.mk hl'
    have HGL := Aside0.mk hgl
    have HLEN := Aside0.mk hlen
    have hcell : wr.cell? ⟨gb, row.toNat, none⟩ = some (.slice A l'.length cc) := cell_of_block HG1.out.blk _ _ (by simpa using hv)
    have hfrz : wr.frozen? ⟨gb, row.toNat, none⟩ = false := frozen_of_block HG1.out.blk _
    clear ho hv hl' hgl hgl2 hlen hrv
    by_cases hlt : (l'.length : Int) ≤ col
    · have hd := decide_eq_true hlt
      have HLT := Aside0.mk hlt
      have hb1 : l'.length + 1 ≤ maxLen := by simp only [maxLen]; have := HR.out.2.2.2; omega
      have hb2 : (l'.length + 1) * 1 ≤ 140737488355328 := by have := HR.out.2.2.2; omega
      obtain ⟨i0, hi0, hz0, hz1, hz2⟩ := info_parts infoB4
      have hlow : base ≤ wr.heap.size := by have := HG1.out.low; have := block_lt HG1.out.blk; omega
      go_wp2_with (at_builtin; refine wpList_append_lies _ (by rfl) _ _ _ (by rfl) base 4 i0 _ 1 1 Try.underlying46 hi0 hz0 hz1 hz2 rfl (by omega) (.slice A l'.length cc) l'.length (bools l') (by rfl) (HO.out.alloc _) ⟨wr.heap.size, 0, none⟩ 1 1 [.bool false] (by rfl) (by rfl) (World.news_of_block (cs := #[.bool false]) (t := 4) (fr := (0, 0)) (heap_alloc_new _ _)) (by simp [Value.oneCell']) (by omega) hb1 hb2 (by simp; omega) (wr.heap.size + 1) (by simp) ?_; intro gg cap w1 hown1 hgrow hat hltg; have bW := far_block hgrow (block_alloc HG1.out.blk _) (fun e => HG1.out.far _ _ _ HV.out e rfl); have cW : w1.cell? ⟨gb, row.toNat, none⟩ = some (.slice A l'.length cc) := cell_of_block bW _ _ (by simpa using HV.out); have fW : w1.frozen? ⟨gb, row.toNat, none⟩ = false := frozen_of_block bW _)
      have HST := Aside0.mk (HG1.out.step (g1 := l' ++ [false]) HV.out hgrow.os hgrow.tape hgrow.output (by have := hgrow.size; simp at this; omega) (fun b hb hne => (hgrow.block b (by simp; omega) (fun e => hne e.symm)).trans (by rw [World.alloc, Array.getElem?_push_lt hb, Array.getElem?_eq_getElem hb])) (by rw [List.length_append, List.length_singleton, bools_snoc]; exact hown1) (fun b hb => by
        have hb' : gg = b := by simpa [Value.ownBlock] using hb
        subst hb'
        rcases hat with e | e
        · exact .inl e
        · exact .inr (by omega)))
      clear hown1 hgrow hat hltg bW cW fW hcell hfrz hlow
      go_roundg (gk - 1)
      case measure =>
        have h1 := HK.out; have h2 := HLEN.out; have h3 := HLT.out; have h4 := HM.out
        omega
      case rel =>
        have h1 := HK.out; have h2 := HLEN.out; have h3 := HLT.out; have h4 := HM.out
        refine ⟨m + 1, _, ⟨?_⟩, ⟨HF.out.trans HST.out.2⟩, ⟨.inr (by omega)⟩, ⟨by omega⟩⟩
        rw [rep_snoc, ← HL'.out]
        have := HST.out.1
        rw [List.set_set] at this
        exact this
    · have HLT := Aside0.mk hlt
      have hd := decide_eq_false hlt
      have hA : ∃ g, A = some ⟨g, 0, none⟩ := by
        rcases HO.out.2 with ⟨e, e2⟩ | ⟨g, cap, cur, e, _⟩
        · have := HR.out.2.2.1; omega
        · exact ⟨g, by injection e⟩
      obtain ⟨g, rfl⟩ := hA
      have hc2 : wr.cell? ⟨g, col.toNat, none⟩ = some ((bools l').getD col.toNat (.bool false)) := by
        have h3 := HR.out.2.2.1
        rw [HO.out.cellAt col.toNat (by omega)]
        have : col.toNat < (bools l').length := by simp [bools]; omega
        rw [List.getD_eq_getElem?_getD, List.getElem?_eq_getElem this]
        rfl
      obtain ⟨old, hold⟩ : ∃ old, old = (bools l').getD col.toNat (.bool false) := ⟨_, rfl⟩
      rw [← hold] at hc2
      clear hold
      have hf2 : wr.frozen? ⟨g, col.toNat, none⟩ = false := HO.out.frozenAt _
      have hq2 := eq_true HR.out.2.2.1
      have hq3 : (col < (l'.length : Int)) = True := eq_true (by omega)
      go_wp2
      go_ret
      refine ⟨rfl, vs', ?_, ?_⟩
      · have hp := (HG1.out.put HV.out HGL.out col.toNat true).1
        rw [List.set_set] at hp
        have h1 := HM.out; have h2 := HLEN.out; have h3 := HLT.out; have h4 := HR.out.2.2.1
        have hm : m = col.toNat + 1 - l.length := by omega
        have e : setG gs row.toNat col.toNat = gs.set row.toNat (l'.set col.toNat true) := by
          unfold setG setRow
          rw [HL2.out, ← hm, ← HL'.out]
        rw [e]
        exact hp
      · exact HF.out.trans (HG1.out.put HV.out HGL.out col.toNat true).2

theorem setG_len (gs : List (List Bool)) (r c : Nat) : (setG gs r c).length = gs.length := by simp [setG]
theorem blkRow_len (gs : List (List Bool)) (ov : Bool) (r c k : Nat) : (blkRow gs ov r c k).1.length = gs.length := by
  induction k with
  | zero => rfl
  | succ k ih => simp only [blkRow, setG_len, ih]
theorem blk_len (gs : List (List Bool)) (ov : Bool) (r c w h : Nat) : (blk gs ov r c w h).1.length = gs.length := by
  induction h with
  | zero => rfl
  | succ h ih => simp only [blk, blkRow_len, ih]

set_option maxRecDepth 100000 in
set_option maxHeartbeats 4000000 in
theorem block_calls (gs : List (List Bool)) (vs : List Value) (base gb c : Nat) (row col high wide : Int) (w : World) (hg : Grid w base gb gs vs) (hn : gs.length ≤ c) (hn2 : gs.length ≤ 9223372036854775807)
    (hr0 : 0 ≤ row) (hh0 : 0 ≤ high) (hr1 : row + high ≤ gs.length) (hc0 : 0 ≤ col) (hw0 : 0 ≤ wide) (hc1 : col + wide ≤ 10000000) :
    Calls Try.prog 14 #[.slice (some ⟨gb, 0, none⟩) gs.length c, .int .i64 row, .int .i64 col, .int .i64 high, .int .i64 wide] w fun e w' => e = .returned (.bool (blk gs false row.toNat col.toNat wide.toNat high.toNat).2) ∧ ∃ vs', Grid w' base gb (blk gs false row.toNat col.toNat wide.toNat high.toNat).1 vs' ∧ GFr w w' gb vs vs' := by
  have HG := Aside0.mk hg
  have HR := Aside0.mk (And.intro hr0 (And.intro hh0 (And.intro hr1 (And.intro hc0 (And.intro hw0 hc1)))))
  have HN := Aside0.mk (And.intro hn hn2)
  clear hg
  go_enter Try.func14, Try.ntmps14
  go_wp2_with fail
  go_loopg [11, 15] high.toNat (fun kq ov i w' => ∃ (k : Int) (vs' : List Value), i = .int .i64 k ∧ ov = .bool (blk gs false row.toNat col.toNat wide.toNat k.toNat).2 ∧ 0 ≤ k ∧ k ≤ high ∧ Aside0 (Grid w' base gb (blk gs false row.toNat col.toNat wide.toNat k.toNat).1 vs') ∧ Aside0 (GFr w w' gb vs vs') ∧ Aside0 ((kq : Int) + k = high))
  case atStart => exact ⟨0, vs, rfl, rfl, by omega, hh0, ⟨HG.out⟩, ⟨GFr.refl w gb vs⟩, ⟨by omega⟩⟩
  case round =>
    obtain ⟨k, vs', rfl, rfl, hk0, hk1, HG1, HF1, HM⟩ := hrel
    by_cases hlt : k < high
    · have hd := decide_eq_true hlt
      obtain ⟨g1, hg1⟩ : ∃ g1, g1 = (blk gs false row.toNat col.toNat wide.toNat k.toNat).1 := ⟨_, rfl⟩
      obtain ⟨o1, ho1⟩ : ∃ o1, o1 = (blk gs false row.toNat col.toNat wide.toNat k.toNat).2 := ⟨_, rfl⟩
      have hgl : g1.length = gs.length := by rw [hg1, blk_len]
      have hnx : blk gs false row.toNat col.toNat wide.toNat (k.toNat + 1) = blkRow g1 o1 (row.toNat + k.toNat) col.toNat wide.toNat := by rw [hg1, ho1, blk]
      rw [← hg1] at HG1
      rw [← ho1]
      have HNX := Aside0.mk hnx
      have HGL := Aside0.mk hgl
      have HK := Aside0.mk (And.intro hk0 hlt)
      clear hg1 ho1 hnx hgl
      obtain ⟨og, rfl⟩ : ∃ og, og = gk := ⟨_, rfl⟩
      go_wp2_with fail
      go_loopg [11, 19] wide.toNat (fun kq2 ov j w' => ∃ (j' : Int) (vs1 : List Value), j = .int .i64 j' ∧ ov = .bool (blkRow g1 o1 (row.toNat + k.toNat) col.toNat j'.toNat).2 ∧ 0 ≤ j' ∧ j' ≤ wide ∧ Aside0 (Grid w' base gb (blkRow g1 o1 (row.toNat + k.toNat) col.toNat j'.toNat).1 vs1) ∧ Aside0 (GFr w w' gb vs vs1) ∧ Aside0 ((kq2 : Int) + j' = wide))
      case atStart => exact ⟨0, vs', rfl, rfl, by omega, HR.out.2.2.2.2.1, ⟨HG1.out⟩, ⟨HF1.out⟩, ⟨by have := HR.out.2.2.2.2.1; omega⟩⟩
      case round =>
        obtain ⟨j, vs1, rfl, rfl, hj0, hj1, HG2, HF2, HM2⟩ := hrel
        by_cases hlt2 : j < wide
        · have hd2 := decide_eq_true hlt2
          have HJ := Aside0.mk (And.intro hj0 hlt2)
          obtain ⟨g2, hg2⟩ : ∃ g2, g2 = (blkRow g1 o1 (row.toNat + k.toNat) col.toNat j.toNat).1 := ⟨_, rfl⟩
          obtain ⟨o2, ho2⟩ : ∃ o2, o2 = (blkRow g1 o1 (row.toNat + k.toNat) col.toNat j.toNat).2 := ⟨_, rfl⟩
          have hgl2 : g2.length = gs.length := by rw [hg2, blkRow_len]; exact HGL.out
          have hnx2 : blkRow g1 o1 (row.toNat + k.toNat) col.toNat (j.toNat + 1) = (setG g2 (row.toNat + k.toNat) (col.toNat + j.toNat), o2 || covAt g2 (row.toNat + k.toNat) (col.toNat + j.toNat)) := by rw [hg2, ho2, blkRow]
          rw [← hg2] at HG2
          rw [← ho2]
          have hR := HR.out
          have hcv := cover_calls g2 vs1 base gb c (row + k) (col + j) _ HG2.out (by rw [hgl2]; exact HN.out.1) (by rw [hgl2]; exact HN.out.2) (by omega) (by rw [hgl2]; omega) (by omega) (by omega)
          rw [hgl2, show (row + k).toNat = row.toNat + k.toNat from by omega, show (col + j).toNat = col.toNat + j.toNat from by omega] at hcv
          have HCV := Aside0.mk hcv
          have HNX2 := Aside0.mk hnx2
          have s1 : 0 ≤ row := hR.1
          have s2 : row + k < gs.length := by omega
          have s3 : (gs.length : Int) ≤ 9223372036854775807 := by have := HN.out.2; omega
          have s4 : 0 ≤ col := hR.2.2.2.1
          have s5 : col + j < 10000000 := by omega
          clear hg2 ho2 hgl2 hnx2 hcv hR
          go_wp2_with fail
          refine HCV.out.mono ?_
          rintro e w2 ⟨rfl, vs2, hg3, hf3⟩
          have HG3 := Aside0.mk hg3
          have HF3 := Aside0.mk hf3
          clear hg3 hf3
          cases hcb : covAt g2 (row.toNat + k.toNat) (col.toNat + j.toNat) with
          | true =>
            have HCB := Aside0.mk hcb
            clear hcb
            go_wp2
            go_roundg (gk - 1)
            case measure => have := HM2.out; have := HJ.out; omega
            case rel => exact ⟨j + 1, vs2, rfl, by rw [show (j + 1).toNat = j.toNat + 1 from by have := HJ.out; omega, HNX2.out, HCB.out, Bool.or_true], by have := HJ.out; omega, by have := HJ.out; omega, ⟨by rw [show (j + 1).toNat = j.toNat + 1 from by have := HJ.out; omega, HNX2.out]; exact HG3.out⟩, ⟨HF2.out.trans HF3.out⟩, ⟨by have := HM2.out; have := HJ.out; omega⟩⟩
          | false =>
            have HCB := Aside0.mk hcb
            clear hcb
            go_wp2
            go_roundg (gk - 1)
            case measure => have := HM2.out; have := HJ.out; omega
            case rel => exact ⟨j + 1, vs2, rfl, by rw [show (j + 1).toNat = j.toNat + 1 from by have := HJ.out; omega, HNX2.out, HCB.out, Bool.or_false], by have := HJ.out; omega, by have := HJ.out; omega, ⟨by rw [show (j + 1).toNat = j.toNat + 1 from by have := HJ.out; omega, HNX2.out]; exact HG3.out⟩, ⟨HF2.out.trans HF3.out⟩, ⟨by have := HM2.out; have := HJ.out; omega⟩⟩
        · obtain rfl : j = wide := by omega
          have hd2 := decide_eq_false hlt2
          rw [← HNX.out] at HG2 ⊢
          go_wp2
          go_roundg (og - 1)
          case measure => have := HM.out; have := HK.out; omega
          case rel => exact ⟨k + 1, vs1, rfl, by rw [show (k + 1).toNat = k.toNat + 1 from by have := HK.out; omega], by have := HK.out; omega, by have := HK.out; omega, ⟨by rw [show (k + 1).toNat = k.toNat + 1 from by have := HK.out; omega]; exact HG2.out⟩, ⟨HF2.out⟩, ⟨by have := HM.out; have := HK.out; omega⟩⟩
    · obtain rfl : k = high := by omega
      have hd := decide_eq_false hlt
      go_wp2
      go_ret
      exact ⟨rfl, vs', HG1.out, HF1.out⟩
end Go.Proofs.Ytdekcbpngbgjmaa.PC
