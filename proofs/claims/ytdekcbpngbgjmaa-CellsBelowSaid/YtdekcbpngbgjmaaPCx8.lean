/- Written by a program of this session out of the translation: plain functions of the Go functions here and the contracts that tie them to the code; no condition beside those in each statement. -/
import Derived.Test.YtdekcbpngbgjmaaPCx0
import Derived.Test.YtdekcbpngbgjmaaPCx3
import Derived.Test.YtdekcbpngbgjmaaHLay
namespace Go.Proofs.Ytdekcbpngbgjmaa.PC
open Go.RowKit Go.Proofs.YtdekcbpngbgjmaaW.PrintWords Go.Proofs.YtdekcbpngbgjmaaW.PrintLast Go.Proofs.YtdekcbpngbgjmaaW.PrintMore
attribute [local go_sem] max2_int min2_int max_two min_two max_three min_three max_four min_four   -- for this text's walks alone
set_option linter.unusedVariables false
set_option linter.unusedSimpArgs false

theorem lay_len {l : List (List S37)} {r : List S33 × List Int × List Int} (h : cells_Lay.f l = some r) : l.length ≤ 1000000 := by
  unfold cells_Lay.f at h
  split at h
  · assumption
  · cases h
theorem heap37 : Kd.Heap k37 := Kd.heap_iso _ (Kd.heap_pair (Kd.heap_int _) (Kd.heap_int _))
theorem N_zero {α : Type} {d : Kd α} {e : Nat} {w : World} {base g : Nat} (h : w.heap[g]? = some (.cells #[] e (0, 0))) (hg : base ≤ g) : Kd.N d e w base (fun _ => True) (.slice (some ⟨g, 0, none⟩) 0 0) [] :=
  Kd.R_N ⟨fun _ _ => trivial, [], ⟨by simp, .inr ⟨g, 0, #[], rfl, hg, h, Nat.le_refl _, by simp [maxLen], by simp, by simp⟩⟩, Reps.none _ _⟩
/-! ### beadlelaw22_CellsBelow: function 6 -/
mutual
def beadlelaw22_CellsBelow.j0 : Nat → List (List (S37)) → List (List (S37)) → Bool → Option (Bool)
  | 0, _, _, _ => none
  | k + 1, x0, x1, x22 => if x22 = true then (some true) else ((cells_Lay.f x0).bind fun bt127 => ((cells_Lay.f (x0 ++ x1)).bind fun bt136 => (beadlelaw22_CellsBelow.l0 k x0 bt127.1 bt127.2.1 bt136.1 bt136.2.1 0 0)))
def beadlelaw22_CellsBelow.l0 : Nat → List (List (S37)) → List (S33) → List Int → List (S33) → List Int → Int → Int → Option (Bool)
  | 0, _, _, _, _, _, _, _ => none
  | k + 1, x0, x5, x6, x8, x9, x11, x12 => if x12 < (x0.length : Int) then (if 0 ≤ x12 then (beadlelaw22_CellsBelow.l0 k x0 x5 x6 x8 x9 (wrap64 (x11 + ((rd_L4 x0 x12).length : Int))) (wrap64 (x12 + 1))) else (none)) else (if (x5.length : Int) < x11 then (beadlelaw22_CellsBelow.j2 k x5 x6 x8 x9 x11 true) else (beadlelaw22_CellsBelow.j2 k x5 x6 x8 x9 x11 (decide ((x8.length : Int) < x11))))
def beadlelaw22_CellsBelow.j2 : Nat → List (S33) → List Int → List (S33) → List Int → Int → Bool → Option (Bool)
  | 0, _, _, _, _, _, _ => none
  | k + 1, x5, x6, x8, x9, x11, x61 => if x61 = true then (some true) else (beadlelaw22_CellsBelow.l1 k x5 x6 x8 x9 x11 0)
def beadlelaw22_CellsBelow.l1 : Nat → List (S33) → List Int → List (S33) → List Int → Int → Int → Option (Bool)
  | 0, _, _, _, _, _, _ => none
  | k + 1, x5, x6, x8, x9, x11, x13 => if x13 < x11 then (if 0 ≤ x13 then (if x13 < (x5.length : Int) then (if x13 < (x8.length : Int) then (if ((rd_T33 x5 x13).f0) = ((rd_T33 x8 x13).f0) then (if ((rd_T33 x5 x13).f1) = ((rd_T33 x8 x13).f1) then (if ((rd_T33 x5 x13).f2) > ((rd_T33 x8 x13).f2) then (some false) else (beadlelaw22_CellsBelow.l1 k x5 x6 x8 x9 x11 (wrap64 (x13 + 1)))) else (some false)) else (some false)) else (none)) else (none)) else (none)) else (beadlelaw22_CellsBelow.l2 k x6 x9 0)
def beadlelaw22_CellsBelow.l2 : Nat → List Int → List Int → Int → Option (Bool)
  | 0, _, _, _ => none
  | k + 1, x6, x9, x14 => if x14 < (x6.length : Int) then (if x14 ≥ (x9.length : Int) then (some false) else (if 0 ≤ x14 then (if x14 < (x9.length : Int) then (if (rd x9 x14) = (rd x6 x14) then (beadlelaw22_CellsBelow.l2 k x6 x9 (wrap64 (x14 + 1))) else (some false)) else (none)) else (none))) else (some true)
end
def beadlelaw22_CellsBelow.f (k : Nat) (l0 : List (List (S37))) (l1 : List (List (S37))) : Option (Bool) := (beadlelaw22_speaks.f).bind fun t124 => (if t124 = true then ((beadlelaw22_many.f k l0).bind fun t125 => (if t125 = true then (beadlelaw22_CellsBelow.j0 k l0 l1 true) else ((beadlelaw22_many.f k l1).bind fun t126 => (beadlelaw22_CellsBelow.j0 k l0 l1 t126)))) else (some false))
theorem beadlelaw22_CellsBelow.mono_l : ∀ k, (∀ y0 y1 y2, LeO (beadlelaw22_CellsBelow.j0 k y0 y1 y2) (beadlelaw22_CellsBelow.j0 (k + 1) y0 y1 y2)) ∧ (∀ y0 y1 y2 y3 y4 y5 y6, LeO (beadlelaw22_CellsBelow.l0 k y0 y1 y2 y3 y4 y5 y6) (beadlelaw22_CellsBelow.l0 (k + 1) y0 y1 y2 y3 y4 y5 y6)) ∧ (∀ y0 y1 y2 y3 y4 y5, LeO (beadlelaw22_CellsBelow.j2 k y0 y1 y2 y3 y4 y5) (beadlelaw22_CellsBelow.j2 (k + 1) y0 y1 y2 y3 y4 y5)) ∧ (∀ y0 y1 y2 y3 y4 y5, LeO (beadlelaw22_CellsBelow.l1 k y0 y1 y2 y3 y4 y5) (beadlelaw22_CellsBelow.l1 (k + 1) y0 y1 y2 y3 y4 y5)) ∧ (∀ y0 y1 y2, LeO (beadlelaw22_CellsBelow.l2 k y0 y1 y2) (beadlelaw22_CellsBelow.l2 (k + 1) y0 y1 y2))
  | 0 => ⟨fun _ _ _ r h => by simp [beadlelaw22_CellsBelow.j0] at h, fun _ _ _ _ _ _ _ r h => by simp [beadlelaw22_CellsBelow.l0] at h, fun _ _ _ _ _ _ r h => by simp [beadlelaw22_CellsBelow.j2] at h, fun _ _ _ _ _ _ r h => by simp [beadlelaw22_CellsBelow.l1] at h, fun _ _ _ r h => by simp [beadlelaw22_CellsBelow.l2] at h⟩
  | k + 1 => by
    obtain ⟨ih0, ih1, ih2, ih3, ih4⟩ := beadlelaw22_CellsBelow.mono_l k
    refine ⟨?_, ?_, ?_, ?_, ?_⟩
    · intro y0 y1 y2
      unfold beadlelaw22_CellsBelow.j0
      repeat' first
      | (with_reducible exact ih0 _ _ _)
      | (with_reducible exact ih1 _ _ _ _ _ _ _)
      | (with_reducible exact ih2 _ _ _ _ _ _)
      | (with_reducible exact ih3 _ _ _ _ _ _)
      | (with_reducible exact ih4 _ _ _)
      | (with_reducible exact beadlelaw22_many.mono _ _)
      | (with_reducible exact LeO.refl _)
      | (with_reducible exact LeO.none _)
      | (with_reducible refine LeO.ite ?_ ?_)
      | (with_reducible refine LeO.bind ?_ (fun _ => ?_))
      | exact ih0 _ _ _
      | exact ih1 _ _ _ _ _ _ _
      | exact ih2 _ _ _ _ _ _
      | exact ih3 _ _ _ _ _ _
      | exact ih4 _ _ _
      | exact beadlelaw22_many.mono _ _
      | exact LeO.none _
      | refine LeO.ite ?_ ?_
      | refine LeO.bind ?_ (fun _ => ?_)
    · intro y0 y1 y2 y3 y4 y5 y6
      unfold beadlelaw22_CellsBelow.l0
      repeat' first
      | (with_reducible exact ih0 _ _ _)
      | (with_reducible exact ih1 _ _ _ _ _ _ _)
      | (with_reducible exact ih2 _ _ _ _ _ _)
      | (with_reducible exact ih3 _ _ _ _ _ _)
      | (with_reducible exact ih4 _ _ _)
      | (with_reducible exact beadlelaw22_many.mono _ _)
      | (with_reducible exact LeO.refl _)
      | (with_reducible exact LeO.none _)
      | (with_reducible refine LeO.ite ?_ ?_)
      | (with_reducible refine LeO.bind ?_ (fun _ => ?_))
      | exact ih0 _ _ _
      | exact ih1 _ _ _ _ _ _ _
      | exact ih2 _ _ _ _ _ _
      | exact ih3 _ _ _ _ _ _
      | exact ih4 _ _ _
      | exact beadlelaw22_many.mono _ _
      | exact LeO.none _
      | refine LeO.ite ?_ ?_
      | refine LeO.bind ?_ (fun _ => ?_)
    · intro y0 y1 y2 y3 y4 y5
      unfold beadlelaw22_CellsBelow.j2
      repeat' first
      | (with_reducible exact ih0 _ _ _)
      | (with_reducible exact ih1 _ _ _ _ _ _ _)
      | (with_reducible exact ih2 _ _ _ _ _ _)
      | (with_reducible exact ih3 _ _ _ _ _ _)
      | (with_reducible exact ih4 _ _ _)
      | (with_reducible exact beadlelaw22_many.mono _ _)
      | (with_reducible exact LeO.refl _)
      | (with_reducible exact LeO.none _)
      | (with_reducible refine LeO.ite ?_ ?_)
      | (with_reducible refine LeO.bind ?_ (fun _ => ?_))
      | exact ih0 _ _ _
      | exact ih1 _ _ _ _ _ _ _
      | exact ih2 _ _ _ _ _ _
      | exact ih3 _ _ _ _ _ _
      | exact ih4 _ _ _
      | exact beadlelaw22_many.mono _ _
      | exact LeO.none _
      | refine LeO.ite ?_ ?_
      | refine LeO.bind ?_ (fun _ => ?_)
    · intro y0 y1 y2 y3 y4 y5
      unfold beadlelaw22_CellsBelow.l1
      repeat' first
      | (with_reducible exact ih0 _ _ _)
      | (with_reducible exact ih1 _ _ _ _ _ _ _)
      | (with_reducible exact ih2 _ _ _ _ _ _)
      | (with_reducible exact ih3 _ _ _ _ _ _)
      | (with_reducible exact ih4 _ _ _)
      | (with_reducible exact beadlelaw22_many.mono _ _)
      | (with_reducible exact LeO.refl _)
      | (with_reducible exact LeO.none _)
      | (with_reducible refine LeO.ite ?_ ?_)
      | (with_reducible refine LeO.bind ?_ (fun _ => ?_))
      | exact ih0 _ _ _
      | exact ih1 _ _ _ _ _ _ _
      | exact ih2 _ _ _ _ _ _
      | exact ih3 _ _ _ _ _ _
      | exact ih4 _ _ _
      | exact beadlelaw22_many.mono _ _
      | exact LeO.none _
      | refine LeO.ite ?_ ?_
      | refine LeO.bind ?_ (fun _ => ?_)
    · intro y0 y1 y2
      unfold beadlelaw22_CellsBelow.l2
      repeat' first
      | (with_reducible exact ih0 _ _ _)
      | (with_reducible exact ih1 _ _ _ _ _ _ _)
      | (with_reducible exact ih2 _ _ _ _ _ _)
      | (with_reducible exact ih3 _ _ _ _ _ _)
      | (with_reducible exact ih4 _ _ _)
      | (with_reducible exact beadlelaw22_many.mono _ _)
      | (with_reducible exact LeO.refl _)
      | (with_reducible exact LeO.none _)
      | (with_reducible refine LeO.ite ?_ ?_)
      | (with_reducible refine LeO.bind ?_ (fun _ => ?_))
      | exact ih0 _ _ _
      | exact ih1 _ _ _ _ _ _ _
      | exact ih2 _ _ _ _ _ _
      | exact ih3 _ _ _ _ _ _
      | exact ih4 _ _ _
      | exact beadlelaw22_many.mono _ _
      | exact LeO.none _
      | refine LeO.ite ?_ ?_
      | refine LeO.bind ?_ (fun _ => ?_)
theorem beadlelaw22_CellsBelow.mono : ∀ a0 a1 k, LeO (beadlelaw22_CellsBelow.f k a0 a1) (beadlelaw22_CellsBelow.f (k + 1) a0 a1) := by
  intro a0 a1 k
  obtain ⟨ih0, ih1, ih2, ih3, ih4⟩ := beadlelaw22_CellsBelow.mono_l k
  unfold beadlelaw22_CellsBelow.f
  repeat' first
      | (with_reducible exact ih0 _ _ _)
      | (with_reducible exact ih1 _ _ _ _ _ _ _)
      | (with_reducible exact ih2 _ _ _ _ _ _)
      | (with_reducible exact ih3 _ _ _ _ _ _)
      | (with_reducible exact ih4 _ _ _)
      | (with_reducible exact beadlelaw22_many.mono _ _)
      | (with_reducible exact LeO.refl _)
      | (with_reducible exact LeO.none _)
      | (with_reducible refine LeO.ite ?_ ?_)
      | (with_reducible refine LeO.bind ?_ (fun _ => ?_))
      | exact ih0 _ _ _
      | exact ih1 _ _ _ _ _ _ _
      | exact ih2 _ _ _ _ _ _
      | exact ih3 _ _ _ _ _ _
      | exact ih4 _ _ _
      | exact beadlelaw22_many.mono _ _
      | exact LeO.none _
      | refine LeO.ite ?_ ?_
      | refine LeO.bind ?_ (fun _ => ?_)
set_option maxHeartbeats 8000000 in
set_option maxRecDepth 100000 in
theorem beadlelaw22_CellsBelow.calls (k : Nat) (A0 : Option Addr) (c0 : Nat) (l0 : List (List (S37))) (A1 : Option Addr) (c1 : Nat) (l1 : List (List (S37))) (r : Bool) (w : World) (hr0 : Kd.C (Kd.slice 37 k37) w A0 l0.length l0) (hc0 : l0.length ≤ c0) (hr1 : Kd.C (Kd.slice 37 k37) w A1 l1.length l1) (hc1 : l1.length ≤ c1) (h : beadlelaw22_CellsBelow.f k l0 l1 = some r) :
    Calls Try.prog 6 #[.slice A0 l0.length c0, .slice A1 l1.length c1] w fun e w' => e = .returned (.bool r) ∧ Below w.heap.size w w' := by
  have HR0 := Aside0.mk hr0
  have HC0 := Aside0.mk hc0
  clear hr0 hc0
  have HR1 := Aside0.mk hr1
  have HC1 := Aside0.mk hc1
  clear hr1 hc1
  have HB := Aside0.mk (Below.refl w.heap.size w)
  have H : ((beadlelaw22_speaks.f).bind fun t124 => (if t124 = true then ((beadlelaw22_many.f k l0).bind fun t125 => (if t125 = true then (beadlelaw22_CellsBelow.j0 k l0 l1 true) else ((beadlelaw22_many.f k l1).bind fun t126 => (beadlelaw22_CellsBelow.j0 k l0 l1 t126)))) else (some false))) = some r := h
  clear h
  replace H := Option.bind_eq_some_iff.mp H
  obtain ⟨t124, A30, H⟩ := H
  replace H : (if t124 = true then ((beadlelaw22_many.f k l0).bind fun t125 => (if t125 = true then (beadlelaw22_CellsBelow.j0 k l0 l1 true) else ((beadlelaw22_many.f k l1).bind fun t126 => (beadlelaw22_CellsBelow.j0 k l0 l1 t126)))) else (some false)) = some r := H
  have A3 := Aside0.mk A30
  clear A30
  by_cases c4 : t124 = true
  · subst c4
    have H1 : ((beadlelaw22_many.f k l0).bind fun t125 => (if t125 = true then (beadlelaw22_CellsBelow.j0 k l0 l1 true) else ((beadlelaw22_many.f k l1).bind fun t126 => (beadlelaw22_CellsBelow.j0 k l0 l1 t126)))) = some r := by rw [if_pos rfl] at H; exact H
    clear H
    have H := H1
    clear H1
    have HC5 := Aside0.mk H
    clear H
    go_enter Try.func6, Try.ntmps6
    go_upto_region 3 with (first | (go_at_call 7; (with_reducible refine (beadlelaw22_speaks.calls  true _ A3.out).mono ?_); rintro e w6 ⟨rfl, hb⟩; have n0_ := Aside0.mk (below_step (by repeat (first | (with_reducible first | exact HB.out | apply below_alloc | apply pw_below_drewN | apply below_drew1) | exact HB.out)) hb); clear HB; have HB := n0_; clear n0_; (try clear hb); (try clear hb2); (try clear hk); (try clear hi)))
    repeat (go_quiet (first | (go_at_call 7; (with_reducible refine (beadlelaw22_speaks.calls  true _ A3.out).mono ?_); rintro e w6 ⟨rfl, hb⟩; have n0_ := Aside0.mk (below_step (by repeat (first | (with_reducible first | exact HB.out | apply below_alloc | apply pw_below_drewN | apply below_drew1) | exact HB.out)) hb); clear HB; have HB := n0_; clear n0_; (try clear hb); (try clear hb2); (try clear hk); (try clear hi))); go_upto_region 3 with (first | (go_at_call 7; (with_reducible refine (beadlelaw22_speaks.calls  true _ A3.out).mono ?_); rintro e w6 ⟨rfl, hb⟩; have n0_ := Aside0.mk (below_step (by repeat (first | (with_reducible first | exact HB.out | apply below_alloc | apply pw_below_drewN | apply below_drew1) | exact HB.out)) hb); clear HB; have HB := n0_; clear n0_; (try clear hb); (try clear hb2); (try clear hk); (try clear hi))))
    (try simp only [Act.put, List.setIfInBounds_toArray, List.set_cons_zero, List.set_cons_succ])
    go_cut [22] (fun v22 wc => ∃ (kq : Nat) (x22_4 : Bool), v22 = .bool x22_4 ∧ Aside0 (beadlelaw22_CellsBelow.j0 kq l0 l1 x22_4 = some r) ∧ Aside0 (kq ≤ k) ∧ Aside0 (Below w.heap.size w wc))
    case first =>
      have H := HC5.out
      clear HC5
      replace H := Option.bind_eq_some_iff.mp H
      obtain ⟨t125, A70, H⟩ := H
      replace H : (if t125 = true then (beadlelaw22_CellsBelow.j0 k l0 l1 true) else ((beadlelaw22_many.f k l1).bind fun t126 => (beadlelaw22_CellsBelow.j0 k l0 l1 t126))) = some r := H
      have A7 := Aside0.mk A70
      clear A70
      by_cases c8 : t125 = true
      · subst c8
        have H1 : (beadlelaw22_CellsBelow.j0 k l0 l1 true) = some r := by rw [if_pos rfl] at H; exact H
        clear H
        have H := H1
        clear H1
        have H' := Aside0.mk H
        clear H
        go_wp2_with (first | (go_at_call 8; (with_reducible refine (beadlelaw22_many.calls k _ _ l0 true _ ?side1 ?side2 A7.out).mono ?_); (case side1 => repeat (first | exact (Kd.C_below HR0.out HB.out) | (with_reducible refine Kd.C_alloc ?_ _) | (with_reducible refine Kd.C_drewN ?_ _) | (with_reducible refine Kd.C_drew ?_))); (case side2 => exact HC0.out); rintro e w' ⟨rfl, ⟨nd, rfl⟩⟩; (try first | exact ⟨rfl, _, World.drewN_drewN _ _ _⟩ | exact ⟨rfl, _, Eq.trans (World.drewN_drewN _ _ _) (congrArg (World.drewN _) (Nat.add_assoc _ _ _))⟩)))
        repeat (go_quiet (first | (go_at_call 8; (with_reducible refine (beadlelaw22_many.calls k _ _ l0 true _ ?side1 ?side2 A7.out).mono ?_); (case side1 => repeat (first | exact (Kd.C_below HR0.out HB.out) | (with_reducible refine Kd.C_alloc ?_ _) | (with_reducible refine Kd.C_drewN ?_ _) | (with_reducible refine Kd.C_drew ?_))); (case side2 => exact HC0.out); rintro e w' ⟨rfl, ⟨nd, rfl⟩⟩; (try first | exact ⟨rfl, _, World.drewN_drewN _ _ _⟩ | exact ⟨rfl, _, Eq.trans (World.drewN_drewN _ _ _) (congrArg (World.drewN _) (Nat.add_assoc _ _ _))⟩))); try go_wp2_with (first | (go_at_call 8; (with_reducible refine (beadlelaw22_many.calls k _ _ l0 true _ ?side1 ?side2 A7.out).mono ?_); (case side1 => repeat (first | exact (Kd.C_below HR0.out HB.out) | (with_reducible refine Kd.C_alloc ?_ _) | (with_reducible refine Kd.C_drewN ?_ _) | (with_reducible refine Kd.C_drew ?_))); (case side2 => exact HC0.out); rintro e w' ⟨rfl, ⟨nd, rfl⟩⟩; (try first | exact ⟨rfl, _, World.drewN_drewN _ _ _⟩ | exact ⟨rfl, _, Eq.trans (World.drewN_drewN _ _ _) (congrArg (World.drewN _) (Nat.add_assoc _ _ _))⟩))))
        go_meet
        case rel => exact ⟨_, (true), (by first | rfl | (simp; done) | (simp [*]; done)), H', ⟨by first | omega | exact Nat.le_refl _⟩, ⟨by repeat (first | (with_reducible first | exact HB.out | apply below_alloc | apply pw_below_drewN | apply below_drew1) | exact HB.out)⟩⟩
      · replace c8 := Bool.eq_false_iff.mpr c8
        subst c8
        have H1 : ((beadlelaw22_many.f k l1).bind fun t126 => (beadlelaw22_CellsBelow.j0 k l0 l1 t126)) = some r := by rw [if_neg (show ¬ (false = true) by decide)] at H; exact H
        clear H
        have H := H1
        clear H1
        replace H := Option.bind_eq_some_iff.mp H
        obtain ⟨t126, A90, H⟩ := H
        replace H : (beadlelaw22_CellsBelow.j0 k l0 l1 t126) = some r := H
        have A9 := Aside0.mk A90
        clear A90
        have H' := Aside0.mk H
        clear H
        go_wp2_with (first | (go_at_call 8; (with_reducible refine (beadlelaw22_many.calls k _ _ l0 false _ ?side1 ?side2 A7.out).mono ?_); (case side1 => repeat (first | exact (Kd.C_below HR0.out HB.out) | (with_reducible refine Kd.C_alloc ?_ _) | (with_reducible refine Kd.C_drewN ?_ _) | (with_reducible refine Kd.C_drew ?_))); (case side2 => exact HC0.out); rintro e w' ⟨rfl, ⟨nd, rfl⟩⟩; (try first | exact ⟨rfl, _, World.drewN_drewN _ _ _⟩ | exact ⟨rfl, _, Eq.trans (World.drewN_drewN _ _ _) (congrArg (World.drewN _) (Nat.add_assoc _ _ _))⟩)) | (go_at_call 8; (with_reducible refine (beadlelaw22_many.calls k _ _ l1 t126 _ ?side1 ?side2 A9.out).mono ?_); (case side1 => repeat (first | exact (Kd.C_below HR1.out (by repeat (first | (with_reducible first | exact HB.out | apply below_alloc | apply pw_below_drewN | apply below_drew1) | exact HB.out))) | (with_reducible refine Kd.C_alloc ?_ _) | (with_reducible refine Kd.C_drewN ?_ _) | (with_reducible refine Kd.C_drew ?_))); (case side2 => exact HC1.out); rintro e w' ⟨rfl, ⟨nd, rfl⟩⟩; (try first | exact ⟨rfl, _, World.drewN_drewN _ _ _⟩ | exact ⟨rfl, _, Eq.trans (World.drewN_drewN _ _ _) (congrArg (World.drewN _) (Nat.add_assoc _ _ _))⟩)))
        repeat (go_quiet (first | (go_at_call 8; (with_reducible refine (beadlelaw22_many.calls k _ _ l0 false _ ?side1 ?side2 A7.out).mono ?_); (case side1 => repeat (first | exact (Kd.C_below HR0.out HB.out) | (with_reducible refine Kd.C_alloc ?_ _) | (with_reducible refine Kd.C_drewN ?_ _) | (with_reducible refine Kd.C_drew ?_))); (case side2 => exact HC0.out); rintro e w' ⟨rfl, ⟨nd, rfl⟩⟩; (try first | exact ⟨rfl, _, World.drewN_drewN _ _ _⟩ | exact ⟨rfl, _, Eq.trans (World.drewN_drewN _ _ _) (congrArg (World.drewN _) (Nat.add_assoc _ _ _))⟩)) | (go_at_call 8; (with_reducible refine (beadlelaw22_many.calls k _ _ l1 t126 _ ?side1 ?side2 A9.out).mono ?_); (case side1 => repeat (first | exact (Kd.C_below HR1.out (by repeat (first | (with_reducible first | exact HB.out | apply below_alloc | apply pw_below_drewN | apply below_drew1) | exact HB.out))) | (with_reducible refine Kd.C_alloc ?_ _) | (with_reducible refine Kd.C_drewN ?_ _) | (with_reducible refine Kd.C_drew ?_))); (case side2 => exact HC1.out); rintro e w' ⟨rfl, ⟨nd, rfl⟩⟩; (try first | exact ⟨rfl, _, World.drewN_drewN _ _ _⟩ | exact ⟨rfl, _, Eq.trans (World.drewN_drewN _ _ _) (congrArg (World.drewN _) (Nat.add_assoc _ _ _))⟩))); try go_wp2_with (first | (go_at_call 8; (with_reducible refine (beadlelaw22_many.calls k _ _ l0 false _ ?side1 ?side2 A7.out).mono ?_); (case side1 => repeat (first | exact (Kd.C_below HR0.out HB.out) | (with_reducible refine Kd.C_alloc ?_ _) | (with_reducible refine Kd.C_drewN ?_ _) | (with_reducible refine Kd.C_drew ?_))); (case side2 => exact HC0.out); rintro e w' ⟨rfl, ⟨nd, rfl⟩⟩; (try first | exact ⟨rfl, _, World.drewN_drewN _ _ _⟩ | exact ⟨rfl, _, Eq.trans (World.drewN_drewN _ _ _) (congrArg (World.drewN _) (Nat.add_assoc _ _ _))⟩)) | (go_at_call 8; (with_reducible refine (beadlelaw22_many.calls k _ _ l1 t126 _ ?side1 ?side2 A9.out).mono ?_); (case side1 => repeat (first | exact (Kd.C_below HR1.out (by repeat (first | (with_reducible first | exact HB.out | apply below_alloc | apply pw_below_drewN | apply below_drew1) | exact HB.out))) | (with_reducible refine Kd.C_alloc ?_ _) | (with_reducible refine Kd.C_drewN ?_ _) | (with_reducible refine Kd.C_drew ?_))); (case side2 => exact HC1.out); rintro e w' ⟨rfl, ⟨nd, rfl⟩⟩; (try first | exact ⟨rfl, _, World.drewN_drewN _ _ _⟩ | exact ⟨rfl, _, Eq.trans (World.drewN_drewN _ _ _) (congrArg (World.drewN _) (Nat.add_assoc _ _ _))⟩))))
        go_meet
        case rel => exact ⟨_, (t126), (by first | rfl | (simp; done) | (simp [*]; done)), H', ⟨by first | omega | exact Nat.le_refl _⟩, ⟨by repeat (first | (with_reducible first | exact HB.out | apply below_alloc | apply pw_below_drewN | apply below_drew1) | exact HB.out)⟩⟩
    case rest =>
      clear HC5
      try clear c1
      try clear p2
      try clear c4
      try clear c6
      try clear c8
      obtain ⟨kq, x22_4, rfl, HA, HJ4, HB⟩ := hcut
      cases kq with
      | zero => exact absurd HA.out (by simp [beadlelaw22_CellsBelow.j0])
      | succ kj4 =>
        have H := HA.out
        clear HA
        simp only [beadlelaw22_CellsBelow.j0] at H
        by_cases c10 : x22_4 = true
        · subst c10
          have H1 : (some true) = some r := by rw [if_pos rfl] at H; exact H
          clear H
          have H := H1
          clear H1
          obtain rfl := Option.some.inj H
          go_wp2
          repeat (go_quiet (fail); try go_wp2)
          go_ret
          exact ⟨by first | rfl | (simp [errW_none, errW_some] <;> rfl) | (simp [*, errW_none, errW_some] <;> rfl), by repeat (first | (with_reducible first | exact HB.out | apply below_alloc | apply pw_below_drewN | apply below_drew1) | exact HB.out)⟩
        · replace c10 := Bool.eq_false_iff.mpr c10
          subst c10
          have H1 : ((cells_Lay.f l0).bind fun bt127 => ((cells_Lay.f (l0 ++ l1)).bind fun bt136 => (beadlelaw22_CellsBelow.l0 kj4 l0 bt127.1 bt127.2.1 bt136.1 bt136.2.1 0 0))) = some r := by rw [if_neg (show ¬ (false = true) by decide)] at H; exact H
          clear H
          have H := H1
          clear H1
          replace H := Option.bind_eq_some_iff.mp H
          obtain ⟨⟨t127, t128, t129⟩, A110, H⟩ := H
          replace H : ((cells_Lay.f (l0 ++ l1)).bind fun bt136 => (beadlelaw22_CellsBelow.l0 kj4 l0 t127 t128 bt136.1 bt136.2.1 0 0)) = some r := H
          have A11 := Aside0.mk A110
          clear A110
          replace H := Option.bind_eq_some_iff.mp H
          obtain ⟨⟨t136, t137, t138⟩, A120, H⟩ := H
          replace H : (beadlelaw22_CellsBelow.l0 kj4 l0 t127 t128 t136 t137 0 0) = some r := H
          have A12 := Aside0.mk A120
          clear A120
          have H' := Aside0.mk H
          clear H
          go_wp2_with (first | (go_at_call 9; (with_reducible refine (cells_Lay.calls _ _ l0 t127 t128 t129 _ ?side1 ?side2 A11.out).mono ?_); (case side1 => repeat (first | exact (Kd.C_below HR0.out HB.out) | (with_reducible refine Kd.C_alloc ?_ _) | (with_reducible refine Kd.C_drewN ?_ _) | (with_reducible refine Kd.C_drew ?_))); (case side2 => exact HC0.out); rintro e w13 ⟨v130, v132, v134, rfl, ho0, ho1, ho2, hb⟩; have n0_ := Aside0.mk (Kd.R_lower ho0 (below_size (by repeat (first | (with_reducible first | exact HB.out | apply below_alloc | apply pw_below_drewN | apply below_drew1) | exact HB.out)))); have n1_ := Aside0.mk (Kd.R_lower ho1 (below_size (by repeat (first | (with_reducible first | exact HB.out | apply below_alloc | apply pw_below_drewN | apply below_drew1) | exact HB.out)))); have n2_ := Aside0.mk (Kd.R_lower ho2 (below_size (by repeat (first | (with_reducible first | exact HB.out | apply below_alloc | apply pw_below_drewN | apply below_drew1) | exact HB.out)))); have n3_ := Aside0.mk (below_step (by repeat (first | (with_reducible first | exact HB.out | apply below_alloc | apply pw_below_drewN | apply below_drew1) | exact HB.out)) hb); clear HB; have HO131 := n0_; have HO133 := n1_; have HO135 := n2_; have HB := n3_; clear n0_ n1_ n2_ n3_; (try clear hb); (try clear hb2); (try clear hk); (try clear hi); (try clear ho0); (try clear ho1); (try clear ho2)) | (at_builtin; have hLen := lay_len A12.out; rw [List.length_append] at hLen; have HLen := Aside0.mk hLen; clear hLen; have hF0 := Kd.C_F (Kd.heap_slice 37 heap37) (Kd.C_below HR0.out HB.out); have HF0 := Aside0.mk hF0; clear hF0; have hF1 := Kd.C_F (Kd.heap_slice 37 heap37) (Kd.C_below HR1.out HB.out); have HF1 := Aside0.mk hF1; clear hF1; refine Kd.N_append_rows (Kd.slice 37 k37) (w0 := w13) w13.heap.size rfl (.tmp 30) (.tmp 31) 22 36 (.slice none 0 0) 24 rfl Try.underlying22 info36 rfl (by decide) (by omega) (.slice (some ⟨w13.heap.size, 0, none⟩) 0 0) [] l0 A0 l0.length c0 (fun _ => True) (fun k => k < w13.heap.size) rfl rfl ?aO ?aR ?aP (fun _ _ => trivial) ?aB ?aS ?aL ?aK; (case aO => exact N_zero (heap_alloc_new _ _) (Nat.le_refl _)); (case aR => exact Kd.F_alloc HF0.out _); (case aP => exact fun k hk => ⟨trivial, fun e => by simp [Value.ownBlock] at e; omega⟩); (case aB => exact below_alloc (Below.refl _ _) _); (case aS => simp); (case aL => (have := HLen.out; simp only [List.length_nil]; omega)); intro v1_ w1_ hn1 hb1 hg1 hat1; simp only [List.nil_append] at hn1; have HN1 := Aside0.mk hn1; have HB1 := Aside0.mk hb1; clear hn1 hb1 hg1 hat1) | (at_builtin; refine Kd.N_append_rows (Kd.slice 37 k37) (w0 := w13) w13.heap.size rfl (.tmp 32) (.tmp 33) 22 36 (.slice none 0 0) 24 rfl Try.underlying22 info36 rfl (by decide) (by omega) v1_ l0 l1 A1 l1.length c1 (fun _ => True) (fun k => k < w13.heap.size) rfl rfl ?bO ?bR ?bP (fun _ _ => trivial) ?bB ?bS ?bL ?bK; (case bO => exact HN1.out); (case bR => exact Kd.F_below HF1.out HB1.out); (case bP => exact fun k hk => ⟨trivial, fun e => by have := Kd.N_base HN1.out k e.symm; omega⟩); (case bB => exact HB1.out); (case bS => exact HB1.out.size); (case bL => (have := HLen.out; omega)); intro v2_ w2_ hn2 hb2 hg2 hat2; obtain ⟨A2_, c2_, rfl, hcl2, hcc2⟩ := Kd.N_reads hn2; have HCC := Aside0.mk hcc2; have HCL := Aside0.mk hcl2; have n0_ := Aside0.mk (Kd.R_below HO131.out hb2); have n1_ := Aside0.mk (Kd.R_below HO133.out hb2); have n2_ := Aside0.mk (Kd.R_below HO135.out hb2); have nb_ := Aside0.mk (below_step HB.out hb2); clear HO131 HO133 HO135 HB; have HO131 := n0_; have HO133 := n1_; have HO135 := n2_; have HB := nb_; clear nb_ n0_ n1_ n2_; clear hn2 hb2 hg2 hat2 hcl2 hcc2 HN1 HB1 HF0 HF1) | (go_at_call 9; rw [← List.length_append]; (with_reducible refine (cells_Lay.calls _ _ (l0 ++ l1) t136 t137 t138 _ ?side3 ?side4 A12.out).mono ?_); (case side3 => exact HCC.out); (case side4 => exact HCL.out); rintro e w14 ⟨v139, v141, v143, rfl, ho0, ho1, ho2, hb⟩; have n0_ := Aside0.mk (Kd.R_elder' (by (with_reducible repeat (first | apply Kd.R_alloc | apply Kd.R_drewN | apply Kd.R_drew)); exact HO131.out) (Kd.R_base ho0) hb); have n1_ := Aside0.mk (Kd.R_mono (Kd.R_told (Kd.R_told (Kd.R_old (by (with_reducible repeat (first | apply Kd.R_alloc | apply Kd.R_drewN | apply Kd.R_drew)); exact HO133.out) hb) (Kd.R_base ho1)) (Kd.R_base ho2)) (fun _ h_ => h_.1)); have n2_ := Aside0.mk (Kd.R_mono (Kd.R_told (Kd.R_told (Kd.R_old (by (with_reducible repeat (first | apply Kd.R_alloc | apply Kd.R_drewN | apply Kd.R_drew)); exact HO135.out) hb) (Kd.R_base ho1)) (Kd.R_base ho2)) (fun _ h_ => h_.1)); have n3_ := Aside0.mk (Kd.R_lower (Kd.R_new' ho0 (Kd.R_lt (by (with_reducible repeat (first | apply Kd.R_alloc | apply Kd.R_drewN | apply Kd.R_drew)); exact HO131.out))) (below_size (by repeat (first | (with_reducible first | exact HB.out | apply below_alloc | apply pw_below_drewN | apply below_drew1) | exact HB.out)))); have n4_ := Aside0.mk (Kd.R_lower (Kd.R_new' (Kd.R_new' ho1 (Kd.R_lt (by (with_reducible repeat (first | apply Kd.R_alloc | apply Kd.R_drewN | apply Kd.R_drew)); exact HO133.out))) (Kd.R_lt (by (with_reducible repeat (first | apply Kd.R_alloc | apply Kd.R_drewN | apply Kd.R_drew)); exact HO135.out))) (below_size (by repeat (first | (with_reducible first | exact HB.out | apply below_alloc | apply pw_below_drewN | apply below_drew1) | exact HB.out)))); have n5_ := Aside0.mk (Kd.R_lower (Kd.R_new' (Kd.R_new' ho2 (Kd.R_lt (by (with_reducible repeat (first | apply Kd.R_alloc | apply Kd.R_drewN | apply Kd.R_drew)); exact HO133.out))) (Kd.R_lt (by (with_reducible repeat (first | apply Kd.R_alloc | apply Kd.R_drewN | apply Kd.R_drew)); exact HO135.out))) (below_size (by repeat (first | (with_reducible first | exact HB.out | apply below_alloc | apply pw_below_drewN | apply below_drew1) | exact HB.out)))); have n6_ := Aside0.mk (below_step (by repeat (first | (with_reducible first | exact HB.out | apply below_alloc | apply pw_below_drewN | apply below_drew1) | exact HB.out)) hb); clear HO131; clear HO133; clear HO135; clear HB; have HO131 := n0_; have HO133 := n1_; have HO135 := n2_; have HO140 := n3_; have HO142 := n4_; have HO144 := n5_; have HB := n6_; clear n0_ n1_ n2_ n3_ n4_ n5_ n6_; (try clear hb); (try clear hb2); (try clear hk); (try clear hi); (try clear ho0); (try clear ho1); (try clear ho2)))
          go_loopg [11, 12] kj4 (fun kq v11 v12 w' => ∃ (x11_2 : Int) (x12_2 : Int), v11 = .int .i64 x11_2 ∧ v12 = .int .i64 x12_2 ∧ Aside0 (beadlelaw22_CellsBelow.l0 kq l0 t127 t128 t136 t137 x11_2 x12_2 = some r) ∧ Aside0 (kq ≤ kj4) ∧ Aside0 (Kd.R k33 33 w' w.heap.size (fun k_ => some k_ ≠ (v139 : Value).ownBlock) v130 t127) ∧ Aside0 (Kd.R (Kd.int .i64) 3 w' w.heap.size (fun k_ => some k_ ≠ (v141 : Value).ownBlock) v132 t128) ∧ Aside0 (Kd.R k33 33 w' w.heap.size (fun k_ => some k_ ≠ (v130 : Value).ownBlock) v139 t136) ∧ Aside0 (Kd.R (Kd.int .i64) 3 w' w.heap.size (fun k_ => some k_ ≠ (v132 : Value).ownBlock) v141 t137) ∧ Aside0 (Below w.heap.size w w'))
          case atStart => exact ⟨(0), (0), (by first | rfl | (simp; done) | (simp [*]; done)), (by first | rfl | (simp; done) | (simp [*]; done)), H', ⟨Nat.le_refl _⟩, ⟨by (with_reducible repeat (first | apply Kd.R_alloc | apply Kd.R_drewN | apply Kd.R_drew)); exact Kd.R_mono HO131.out (fun _ hk => hk.2)⟩, ⟨by (with_reducible repeat (first | apply Kd.R_alloc | apply Kd.R_drewN | apply Kd.R_drew)); exact Kd.R_mono HO133.out (fun _ hk => hk.1.2)⟩, ⟨by (with_reducible repeat (first | apply Kd.R_alloc | apply Kd.R_drewN | apply Kd.R_drew)); exact Kd.R_mono HO140.out (fun _ hk => hk.2)⟩, ⟨by (with_reducible repeat (first | apply Kd.R_alloc | apply Kd.R_drewN | apply Kd.R_drew)); exact Kd.R_mono HO142.out (fun _ hk => hk.1.2)⟩, ⟨by repeat (first | (with_reducible first | exact HB.out | apply below_alloc | apply pw_below_drewN | apply below_drew1) | exact HB.out)⟩⟩
          case round =>
            clear H'
            try clear c1
            try clear p2
            try clear c4
            try clear c6
            try clear c8
            try clear c10
            try clear p2
            obtain ⟨x11_2, x12_2, rfl, rfl, HA, HK2, HO_5, HO_6, HO_8, HO_9, HB⟩ := hrel
            cases gk with
            | zero => exact absurd HA.out (by simp [beadlelaw22_CellsBelow.l0])
            | succ k2 =>
              have H := HA.out
              clear HA
              simp only [beadlelaw22_CellsBelow.l0] at H
              by_cases c15 : x12_2 < (l0.length : Int)
              · rw [if_pos c15] at H
                have c15b0 : decide (x12_2 < (l0.length : Int)) = true := decide_eq_true c15
                clear c15
                by_cases c16 : 0 ≤ x12_2
                · rw [if_pos c16] at H
                  have c16b0 : decide (0 ≤ x12_2) = true := decide_eq_true c16
                  clear c16
                  have H' := Aside0.mk H
                  clear H
                  have p145 : 0 ≤ (x12_2 : Int) := of_decide_eq_true (by first | (with_reducible assumption) | assumption)
                  have q145 : x12_2 < (l0.length : Int) := of_decide_eq_true (by first | (with_reducible assumption) | assumption)
                  obtain ⟨ad145, A145_0, c145_0, e145, hx145_0, hl145_0, hi145_0⟩ := at_L4 HR0.out x12_2 p145 q145
                  cases e145
                  replace hx145_0 := (HB.out.cell (World.block_lt_of_cell? w _ hx145_0)).trans hx145_0
                  have HR145_0 := Aside0.mk hi145_0
                  have HC145_0 := Aside0.mk hl145_0
                  clear hi145_0 hl145_0
                  replace p145 := eq_true p145
                  replace q145 := eq_true q145
                  go_wp2
                  repeat (go_quiet (fail); try go_wp2)
                  go_roundg k2
                  case measure => have := HJ4.out; have := HK2.out; omega
                  case rel => exact ⟨(wrap64 (x11_2 + ((rd_L4 l0 x12_2).length : Int))), (wrap64 (x12_2 + 1)), (by first | rfl | (simp; done) | (simp [*]; done)), (by first | rfl | (simp; done) | (simp [*]; done)), H', ⟨by have := HJ4.out; have := HK2.out; omega⟩, ⟨by (with_reducible repeat (first | apply Kd.R_alloc | apply Kd.R_drewN | apply Kd.R_drew)); exact HO_5.out⟩, ⟨by (with_reducible repeat (first | apply Kd.R_alloc | apply Kd.R_drewN | apply Kd.R_drew)); exact HO_6.out⟩, ⟨by (with_reducible repeat (first | apply Kd.R_alloc | apply Kd.R_drewN | apply Kd.R_drew)); exact HO_8.out⟩, ⟨by (with_reducible repeat (first | apply Kd.R_alloc | apply Kd.R_drewN | apply Kd.R_drew)); exact HO_9.out⟩, ⟨by repeat (first | (with_reducible first | exact HB.out | apply below_alloc | apply pw_below_drewN | apply below_drew1) | exact HB.out)⟩⟩
                · rw [if_neg c16] at H
                  exact absurd H (by simp)
              · rw [if_neg c15] at H
                have c15b0 : decide (x12_2 < (l0.length : Int)) = false := decide_eq_false c15
                clear c15
                have HC17 := Aside0.mk H
                clear H
                go_upto_region 12 with (fail)
                repeat (go_quiet (fail); go_upto_region 12 with (fail))
                go_cut [61] (fun v61 wc => ∃ (kq : Nat) (x61_16 : Bool), v61 = .bool x61_16 ∧ Aside0 (beadlelaw22_CellsBelow.j2 kq t127 t128 t136 t137 x11_2 x61_16 = some r) ∧ Aside0 (kq ≤ k2) ∧ Aside0 (Kd.R k33 33 wc w.heap.size (fun k_ => some k_ ≠ (v139 : Value).ownBlock) v130 t127) ∧ Aside0 (Kd.R (Kd.int .i64) 3 wc w.heap.size (fun k_ => some k_ ≠ (v141 : Value).ownBlock) v132 t128) ∧ Aside0 (Kd.R k33 33 wc w.heap.size (fun k_ => some k_ ≠ (v130 : Value).ownBlock) v139 t136) ∧ Aside0 (Kd.R (Kd.int .i64) 3 wc w.heap.size (fun k_ => some k_ ≠ (v132 : Value).ownBlock) v141 t137) ∧ Aside0 (Below w.heap.size w wc))
                case first =>
                  have H := HC17.out
                  clear HC17
                  by_cases c18 : (t127.length : Int) < x11_2
                  · rw [if_pos c18] at H
                    have c18b0 : decide ((t127.length : Int) < x11_2) = true := decide_eq_true c18
                    clear c18
                    (first | rw [c18b0] | (simp only [i64_w, i32_w]; rw [c18b0]) | skip)
                    have H' := Aside0.mk H
                    clear H
                    obtain ⟨Ao19, co19, eo19⟩ := Kd.R_slice HO_5.out
                    subst eo19
                    go_wp2
                    repeat (go_quiet (fail); try go_wp2)
                    go_meet
                    case rel => exact ⟨_, (true), (by first | rfl | (simp; done) | (simp [*]; done)), H', ⟨by have := HJ4.out; have := HK2.out; first | omega | exact Nat.le_refl _⟩, ⟨by (with_reducible repeat (first | apply Kd.R_alloc | apply Kd.R_drewN | apply Kd.R_drew)); exact HO_5.out⟩, ⟨by (with_reducible repeat (first | apply Kd.R_alloc | apply Kd.R_drewN | apply Kd.R_drew)); exact HO_6.out⟩, ⟨by (with_reducible repeat (first | apply Kd.R_alloc | apply Kd.R_drewN | apply Kd.R_drew)); exact HO_8.out⟩, ⟨by (with_reducible repeat (first | apply Kd.R_alloc | apply Kd.R_drewN | apply Kd.R_drew)); exact HO_9.out⟩, ⟨by repeat (first | (with_reducible first | exact HB.out | apply below_alloc | apply pw_below_drewN | apply below_drew1) | exact HB.out)⟩⟩
                  · rw [if_neg c18] at H
                    have c18b0 : decide ((t127.length : Int) < x11_2) = false := decide_eq_false c18
                    clear c18
                    (first | rw [c18b0] | (simp only [i64_w, i32_w]; rw [c18b0]) | skip)
                    have H' := Aside0.mk H
                    clear H
                    obtain ⟨Ao20, co20, eo20⟩ := Kd.R_slice HO_5.out
                    subst eo20
                    obtain ⟨Ao21, co21, eo21⟩ := Kd.R_slice HO_8.out
                    subst eo21
                    go_wp2
                    repeat (go_quiet (fail); try go_wp2)
                    go_meet
                    case rel => exact ⟨_, (decide ((t136.length : Int) < x11_2)), (by first | rfl | (simp; done) | (simp [*]; done)), H', ⟨by have := HJ4.out; have := HK2.out; first | omega | exact Nat.le_refl _⟩, ⟨by (with_reducible repeat (first | apply Kd.R_alloc | apply Kd.R_drewN | apply Kd.R_drew)); exact HO_5.out⟩, ⟨by (with_reducible repeat (first | apply Kd.R_alloc | apply Kd.R_drewN | apply Kd.R_drew)); exact HO_6.out⟩, ⟨by (with_reducible repeat (first | apply Kd.R_alloc | apply Kd.R_drewN | apply Kd.R_drew)); exact HO_8.out⟩, ⟨by (with_reducible repeat (first | apply Kd.R_alloc | apply Kd.R_drewN | apply Kd.R_drew)); exact HO_9.out⟩, ⟨by repeat (first | (with_reducible first | exact HB.out | apply below_alloc | apply pw_below_drewN | apply below_drew1) | exact HB.out)⟩⟩
                case rest =>
                  clear HC17
                  try clear c1
                  try clear p1
                  try clear q1
                  try clear hx1
                  try clear p2
                  try clear c4
                  try clear c6
                  try clear p6
                  try clear c8
                  try clear c10
                  try clear c14
                  try clear p14
                  try clear q14
                  try clear hx14
                  try clear c15
                  try clear c15b0
                  try clear c16
                  try clear c16b0
                  try clear c18
                  try clear c18b0
                  try clear hx145_0
                  try clear p145
                  try clear p2
                  try clear q145
                  obtain ⟨kq, x61_16, rfl, HA, HJ16, HO_5, HO_6, HO_8, HO_9, HB⟩ := hcut
                  cases kq with
                  | zero => exact absurd HA.out (by simp [beadlelaw22_CellsBelow.j2])
                  | succ kj16 =>
                    have H := HA.out
                    clear HA
                    simp only [beadlelaw22_CellsBelow.j2] at H
                    by_cases c22 : x61_16 = true
                    · subst c22
                      have H1 : (some true) = some r := by rw [if_pos rfl] at H; exact H
                      clear H
                      have H := H1
                      clear H1
                      obtain rfl := Option.some.inj H
                      go_wp2
                      repeat (go_quiet (fail); try go_wp2)
                      go_ret
                      exact ⟨by first | rfl | (simp [errW_none, errW_some] <;> rfl) | (simp [*, errW_none, errW_some] <;> rfl), by repeat (first | (with_reducible first | exact HB.out | apply below_alloc | apply pw_below_drewN | apply below_drew1) | exact HB.out)⟩
                    · replace c22 := Bool.eq_false_iff.mpr c22
                      subst c22
                      have H1 : (beadlelaw22_CellsBelow.l1 kj16 t127 t128 t136 t137 x11_2 0) = some r := by rw [if_neg (show ¬ (false = true) by decide)] at H; exact H
                      clear H
                      have H := H1
                      clear H1
                      have H' := Aside0.mk H
                      clear H
                      go_wp2
                      repeat (go_quiet (fail); try go_wp2)
                      go_loopg [13] kj16 (fun kq v13 w' => ∃ (x13_4 : Int), v13 = .int .i64 x13_4 ∧ Aside0 (beadlelaw22_CellsBelow.l1 kq t127 t128 t136 t137 x11_2 x13_4 = some r) ∧ Aside0 (kq ≤ kj16) ∧ Aside0 (Kd.R k33 33 w' w.heap.size (fun k_ => some k_ ≠ (v139 : Value).ownBlock) v130 t127) ∧ Aside0 (Kd.R (Kd.int .i64) 3 w' w.heap.size (fun k_ => some k_ ≠ (v141 : Value).ownBlock) v132 t128) ∧ Aside0 (Kd.R k33 33 w' w.heap.size (fun k_ => some k_ ≠ (v130 : Value).ownBlock) v139 t136) ∧ Aside0 (Kd.R (Kd.int .i64) 3 w' w.heap.size (fun k_ => some k_ ≠ (v132 : Value).ownBlock) v141 t137) ∧ Aside0 (Below w.heap.size w w'))
                      case atStart => exact ⟨(0), (by first | rfl | (simp; done) | (simp [*]; done)), H', ⟨Nat.le_refl _⟩, ⟨by (with_reducible repeat (first | apply Kd.R_alloc | apply Kd.R_drewN | apply Kd.R_drew)); exact HO_5.out⟩, ⟨by (with_reducible repeat (first | apply Kd.R_alloc | apply Kd.R_drewN | apply Kd.R_drew)); exact HO_6.out⟩, ⟨by (with_reducible repeat (first | apply Kd.R_alloc | apply Kd.R_drewN | apply Kd.R_drew)); exact HO_8.out⟩, ⟨by (with_reducible repeat (first | apply Kd.R_alloc | apply Kd.R_drewN | apply Kd.R_drew)); exact HO_9.out⟩, ⟨by repeat (first | (with_reducible first | exact HB.out | apply below_alloc | apply pw_below_drewN | apply below_drew1) | exact HB.out)⟩⟩
                      case round =>
                        clear H'
                        try clear c1
                        try clear p1
                        try clear q1
                        try clear hx1
                        try clear c2
                        try clear p2
                        try clear c4
                        try clear c6
                        try clear p6
                        try clear c8
                        try clear c10
                        try clear c14
                        try clear p14
                        try clear q14
                        try clear hx14
                        try clear c15
                        try clear c15b0
                        try clear c16
                        try clear c16b0
                        try clear c18
                        try clear c18b0
                        try clear c22
                        try clear hx145_0
                        try clear p1
                        try clear p14
                        try clear p145
                        try clear p2
                        try clear p6
                        try clear q1
                        try clear q14
                        try clear q145
                        obtain ⟨x13_4, rfl, HA, HK4, HO_5, HO_6, HO_8, HO_9, HB⟩ := hrel
                        cases gk with
                        | zero => exact absurd HA.out (by simp [beadlelaw22_CellsBelow.l1])
                        | succ k4 =>
                          have H := HA.out
                          clear HA
                          simp only [beadlelaw22_CellsBelow.l1] at H
                          by_cases c23 : x13_4 < x11_2
                          · rw [if_pos c23] at H
                            have c23b0 : decide (x13_4 < x11_2) = true := decide_eq_true c23
                            clear c23
                            by_cases c24 : 0 ≤ x13_4
                            · rw [if_pos c24] at H
                              have c24b0 : decide (0 ≤ x13_4) = true := decide_eq_true c24
                              clear c24
                              by_cases c25 : x13_4 < (t127.length : Int)
                              · rw [if_pos c25] at H
                                have c25b0 : decide (x13_4 < (t127.length : Int)) = true := decide_eq_true c25
                                clear c25
                                by_cases c26 : x13_4 < (t136.length : Int)
                                · rw [if_pos c26] at H
                                  have c26b0 : decide (x13_4 < (t136.length : Int)) = true := decide_eq_true c26
                                  clear c26
                                  by_cases c27 : ((rd_T33 t127 x13_4).f0) = ((rd_T33 t136 x13_4).f0)
                                  · rw [if_pos c27] at H
                                    have c27b0 : (((rd_T33 t127 x13_4).f0) == ((rd_T33 t136 x13_4).f0)) = true := beq_iff_eq.mpr c27
                                    have c27b1 : (((rd_T33 t127 x13_4).f0) != ((rd_T33 t136 x13_4).f0)) = false := bne_eq_false_iff_eq.mpr c27
                                    clear c27
                                    by_cases c28 : ((rd_T33 t127 x13_4).f1) = ((rd_T33 t136 x13_4).f1)
                                    · rw [if_pos c28] at H
                                      have c28b0 : (((rd_T33 t127 x13_4).f1) == ((rd_T33 t136 x13_4).f1)) = true := beq_iff_eq.mpr c28
                                      have c28b1 : (((rd_T33 t127 x13_4).f1) != ((rd_T33 t136 x13_4).f1)) = false := bne_eq_false_iff_eq.mpr c28
                                      clear c28
                                      by_cases c29 : ((rd_T33 t127 x13_4).f2) > ((rd_T33 t136 x13_4).f2)
                                      · rw [if_pos c29] at H
                                        have c29b0 : decide (((rd_T33 t136 x13_4).f2) < ((rd_T33 t127 x13_4).f2)) = true := decide_eq_true c29
                                        clear c29
                                        obtain rfl := Option.some.inj H
                                        obtain ⟨Ao30, co30, eo30⟩ := Kd.R_slice HO_5.out
                                        subst eo30
                                        have p146 : 0 ≤ (x13_4 : Int) := of_decide_eq_true (by first | (with_reducible assumption) | assumption)
                                        have q146 : x13_4 < (t127.length : Int) := of_decide_eq_true (by first | (with_reducible assumption) | assumption)
                                        obtain ⟨ad146, e146, hx146_0, hx146_1, hx146_2⟩ := at_T33 (Kd.R_reads' HO_5.out).2.2 x13_4 p146 q146
                                        cases e146
                                        replace p146 := eq_true p146
                                        replace q146 := eq_true q146
                                        obtain ⟨Ao31, co31, eo31⟩ := Kd.R_slice HO_8.out
                                        subst eo31
                                        have p147 : 0 ≤ (x13_4 : Int) := of_decide_eq_true (by first | (with_reducible assumption) | assumption)
                                        have q147 : x13_4 < (t136.length : Int) := of_decide_eq_true (by first | (with_reducible assumption) | assumption)
                                        obtain ⟨ad147, e147, hx147_0, hx147_1, hx147_2⟩ := at_T33 (Kd.R_reads' HO_8.out).2.2 x13_4 p147 q147
                                        cases e147
                                        replace p147 := eq_true p147
                                        replace q147 := eq_true q147
                                        have p148 : 0 ≤ (x13_4 : Int) := of_decide_eq_true (by first | (with_reducible assumption) | assumption)
                                        have q148 : x13_4 < (t127.length : Int) := of_decide_eq_true (by first | (with_reducible assumption) | assumption)
                                        obtain ⟨ad148, e148, hx148_0, hx148_1, hx148_2⟩ := at_T33 (Kd.R_reads' HO_5.out).2.2 x13_4 p148 q148
                                        obtain rfl : ad146 = ad148 := (by injection e148)
                                        replace p148 := eq_true p148
                                        replace q148 := eq_true q148
                                        have p149 : 0 ≤ (x13_4 : Int) := of_decide_eq_true (by first | (with_reducible assumption) | assumption)
                                        have q149 : x13_4 < (t136.length : Int) := of_decide_eq_true (by first | (with_reducible assumption) | assumption)
                                        obtain ⟨ad149, e149, hx149_0, hx149_1, hx149_2⟩ := at_T33 (Kd.R_reads' HO_8.out).2.2 x13_4 p149 q149
                                        obtain rfl : ad147 = ad149 := (by injection e149)
                                        replace p149 := eq_true p149
                                        replace q149 := eq_true q149
                                        have p150 : 0 ≤ (x13_4 : Int) := of_decide_eq_true (by first | (with_reducible assumption) | assumption)
                                        have q150 : x13_4 < (t127.length : Int) := of_decide_eq_true (by first | (with_reducible assumption) | assumption)
                                        obtain ⟨ad150, e150, hx150_0, hx150_1, hx150_2⟩ := at_T33 (Kd.R_reads' HO_5.out).2.2 x13_4 p150 q150
                                        obtain rfl : ad146 = ad150 := (by injection e150)
                                        replace p150 := eq_true p150
                                        replace q150 := eq_true q150
                                        have p151 : 0 ≤ (x13_4 : Int) := of_decide_eq_true (by first | (with_reducible assumption) | assumption)
                                        have q151 : x13_4 < (t136.length : Int) := of_decide_eq_true (by first | (with_reducible assumption) | assumption)
                                        obtain ⟨ad151, e151, hx151_0, hx151_1, hx151_2⟩ := at_T33 (Kd.R_reads' HO_8.out).2.2 x13_4 p151 q151
                                        obtain rfl : ad147 = ad151 := (by injection e151)
                                        replace p151 := eq_true p151
                                        replace q151 := eq_true q151
                                        go_wp2
                                        repeat (go_quiet (fail); try go_wp2)
                                        go_ret
                                        exact ⟨by first | rfl | (simp [errW_none, errW_some] <;> rfl) | (simp [*, errW_none, errW_some] <;> rfl), by repeat (first | (with_reducible first | exact HB.out | apply below_alloc | apply pw_below_drewN | apply below_drew1) | exact HB.out)⟩
                                      · rw [if_neg c29] at H
                                        have c29b0 : decide (((rd_T33 t136 x13_4).f2) < ((rd_T33 t127 x13_4).f2)) = false := decide_eq_false c29
                                        clear c29
                                        have H' := Aside0.mk H
                                        clear H
                                        obtain ⟨Ao32, co32, eo32⟩ := Kd.R_slice HO_5.out
                                        subst eo32
                                        have p146 : 0 ≤ (x13_4 : Int) := of_decide_eq_true (by first | (with_reducible assumption) | assumption)
                                        have q146 : x13_4 < (t127.length : Int) := of_decide_eq_true (by first | (with_reducible assumption) | assumption)
                                        obtain ⟨ad146, e146, hx146_0, hx146_1, hx146_2⟩ := at_T33 (Kd.R_reads' HO_5.out).2.2 x13_4 p146 q146
                                        cases e146
                                        replace p146 := eq_true p146
                                        replace q146 := eq_true q146
                                        obtain ⟨Ao33, co33, eo33⟩ := Kd.R_slice HO_8.out
                                        subst eo33
                                        have p147 : 0 ≤ (x13_4 : Int) := of_decide_eq_true (by first | (with_reducible assumption) | assumption)
                                        have q147 : x13_4 < (t136.length : Int) := of_decide_eq_true (by first | (with_reducible assumption) | assumption)
                                        obtain ⟨ad147, e147, hx147_0, hx147_1, hx147_2⟩ := at_T33 (Kd.R_reads' HO_8.out).2.2 x13_4 p147 q147
                                        cases e147
                                        replace p147 := eq_true p147
                                        replace q147 := eq_true q147
                                        have p148 : 0 ≤ (x13_4 : Int) := of_decide_eq_true (by first | (with_reducible assumption) | assumption)
                                        have q148 : x13_4 < (t127.length : Int) := of_decide_eq_true (by first | (with_reducible assumption) | assumption)
                                        obtain ⟨ad148, e148, hx148_0, hx148_1, hx148_2⟩ := at_T33 (Kd.R_reads' HO_5.out).2.2 x13_4 p148 q148
                                        obtain rfl : ad146 = ad148 := (by injection e148)
                                        replace p148 := eq_true p148
                                        replace q148 := eq_true q148
                                        have p149 : 0 ≤ (x13_4 : Int) := of_decide_eq_true (by first | (with_reducible assumption) | assumption)
                                        have q149 : x13_4 < (t136.length : Int) := of_decide_eq_true (by first | (with_reducible assumption) | assumption)
                                        obtain ⟨ad149, e149, hx149_0, hx149_1, hx149_2⟩ := at_T33 (Kd.R_reads' HO_8.out).2.2 x13_4 p149 q149
                                        obtain rfl : ad147 = ad149 := (by injection e149)
                                        replace p149 := eq_true p149
                                        replace q149 := eq_true q149
                                        have p150 : 0 ≤ (x13_4 : Int) := of_decide_eq_true (by first | (with_reducible assumption) | assumption)
                                        have q150 : x13_4 < (t127.length : Int) := of_decide_eq_true (by first | (with_reducible assumption) | assumption)
                                        obtain ⟨ad150, e150, hx150_0, hx150_1, hx150_2⟩ := at_T33 (Kd.R_reads' HO_5.out).2.2 x13_4 p150 q150
                                        obtain rfl : ad146 = ad150 := (by injection e150)
                                        replace p150 := eq_true p150
                                        replace q150 := eq_true q150
                                        have p151 : 0 ≤ (x13_4 : Int) := of_decide_eq_true (by first | (with_reducible assumption) | assumption)
                                        have q151 : x13_4 < (t136.length : Int) := of_decide_eq_true (by first | (with_reducible assumption) | assumption)
                                        obtain ⟨ad151, e151, hx151_0, hx151_1, hx151_2⟩ := at_T33 (Kd.R_reads' HO_8.out).2.2 x13_4 p151 q151
                                        obtain rfl : ad147 = ad151 := (by injection e151)
                                        replace p151 := eq_true p151
                                        replace q151 := eq_true q151
                                        go_wp2
                                        repeat (go_quiet (fail); try go_wp2)
                                        go_roundg k4
                                        case measure => have := HJ4.out; have := HK2.out; have := HJ16.out; have := HK4.out; omega
                                        case rel => exact ⟨(wrap64 (x13_4 + 1)), (by first | rfl | (simp; done) | (simp [*]; done)), H', ⟨by have := HJ4.out; have := HK2.out; have := HJ16.out; have := HK4.out; omega⟩, ⟨by (with_reducible repeat (first | apply Kd.R_alloc | apply Kd.R_drewN | apply Kd.R_drew)); exact HO_5.out⟩, ⟨by (with_reducible repeat (first | apply Kd.R_alloc | apply Kd.R_drewN | apply Kd.R_drew)); exact HO_6.out⟩, ⟨by (with_reducible repeat (first | apply Kd.R_alloc | apply Kd.R_drewN | apply Kd.R_drew)); exact HO_8.out⟩, ⟨by (with_reducible repeat (first | apply Kd.R_alloc | apply Kd.R_drewN | apply Kd.R_drew)); exact HO_9.out⟩, ⟨by repeat (first | (with_reducible first | exact HB.out | apply below_alloc | apply pw_below_drewN | apply below_drew1) | exact HB.out)⟩⟩
                                    · rw [if_neg c28] at H
                                      have c28b0 : (((rd_T33 t127 x13_4).f1) == ((rd_T33 t136 x13_4).f1)) = false := beq_eq_false_iff_ne.mpr c28
                                      have c28b1 : (((rd_T33 t127 x13_4).f1) != ((rd_T33 t136 x13_4).f1)) = true := bne_iff_ne.mpr c28
                                      obtain rfl := Option.some.inj H
                                      obtain ⟨Ao34, co34, eo34⟩ := Kd.R_slice HO_5.out
                                      subst eo34
                                      have p146 : 0 ≤ (x13_4 : Int) := of_decide_eq_true (by first | (with_reducible assumption) | assumption)
                                      have q146 : x13_4 < (t127.length : Int) := of_decide_eq_true (by first | (with_reducible assumption) | assumption)
                                      obtain ⟨ad146, e146, hx146_0, hx146_1, hx146_2⟩ := at_T33 (Kd.R_reads' HO_5.out).2.2 x13_4 p146 q146
                                      cases e146
                                      replace p146 := eq_true p146
                                      replace q146 := eq_true q146
                                      obtain ⟨Ao35, co35, eo35⟩ := Kd.R_slice HO_8.out
                                      subst eo35
                                      have p147 : 0 ≤ (x13_4 : Int) := of_decide_eq_true (by first | (with_reducible assumption) | assumption)
                                      have q147 : x13_4 < (t136.length : Int) := of_decide_eq_true (by first | (with_reducible assumption) | assumption)
                                      obtain ⟨ad147, e147, hx147_0, hx147_1, hx147_2⟩ := at_T33 (Kd.R_reads' HO_8.out).2.2 x13_4 p147 q147
                                      cases e147
                                      replace p147 := eq_true p147
                                      replace q147 := eq_true q147
                                      have p148 : 0 ≤ (x13_4 : Int) := of_decide_eq_true (by first | (with_reducible assumption) | assumption)
                                      have q148 : x13_4 < (t127.length : Int) := of_decide_eq_true (by first | (with_reducible assumption) | assumption)
                                      obtain ⟨ad148, e148, hx148_0, hx148_1, hx148_2⟩ := at_T33 (Kd.R_reads' HO_5.out).2.2 x13_4 p148 q148
                                      obtain rfl : ad146 = ad148 := (by injection e148)
                                      replace p148 := eq_true p148
                                      replace q148 := eq_true q148
                                      have p149 : 0 ≤ (x13_4 : Int) := of_decide_eq_true (by first | (with_reducible assumption) | assumption)
                                      have q149 : x13_4 < (t136.length : Int) := of_decide_eq_true (by first | (with_reducible assumption) | assumption)
                                      obtain ⟨ad149, e149, hx149_0, hx149_1, hx149_2⟩ := at_T33 (Kd.R_reads' HO_8.out).2.2 x13_4 p149 q149
                                      obtain rfl : ad147 = ad149 := (by injection e149)
                                      replace p149 := eq_true p149
                                      replace q149 := eq_true q149
                                      go_wp2
                                      repeat (go_quiet (fail); try go_wp2)
                                      go_ret
                                      exact ⟨by first | rfl | (simp [errW_none, errW_some] <;> rfl) | (simp [*, errW_none, errW_some] <;> rfl), by repeat (first | (with_reducible first | exact HB.out | apply below_alloc | apply pw_below_drewN | apply below_drew1) | exact HB.out)⟩
                                  · rw [if_neg c27] at H
                                    have c27b0 : (((rd_T33 t127 x13_4).f0) == ((rd_T33 t136 x13_4).f0)) = false := beq_eq_false_iff_ne.mpr c27
                                    have c27b1 : (((rd_T33 t127 x13_4).f0) != ((rd_T33 t136 x13_4).f0)) = true := bne_iff_ne.mpr c27
                                    obtain rfl := Option.some.inj H
                                    obtain ⟨Ao36, co36, eo36⟩ := Kd.R_slice HO_5.out
                                    subst eo36
                                    have p146 : 0 ≤ (x13_4 : Int) := of_decide_eq_true (by first | (with_reducible assumption) | assumption)
                                    have q146 : x13_4 < (t127.length : Int) := of_decide_eq_true (by first | (with_reducible assumption) | assumption)
                                    obtain ⟨ad146, e146, hx146_0, hx146_1, hx146_2⟩ := at_T33 (Kd.R_reads' HO_5.out).2.2 x13_4 p146 q146
                                    cases e146
                                    replace p146 := eq_true p146
                                    replace q146 := eq_true q146
                                    obtain ⟨Ao37, co37, eo37⟩ := Kd.R_slice HO_8.out
                                    subst eo37
                                    have p147 : 0 ≤ (x13_4 : Int) := of_decide_eq_true (by first | (with_reducible assumption) | assumption)
                                    have q147 : x13_4 < (t136.length : Int) := of_decide_eq_true (by first | (with_reducible assumption) | assumption)
                                    obtain ⟨ad147, e147, hx147_0, hx147_1, hx147_2⟩ := at_T33 (Kd.R_reads' HO_8.out).2.2 x13_4 p147 q147
                                    cases e147
                                    replace p147 := eq_true p147
                                    replace q147 := eq_true q147
                                    go_wp2
                                    repeat (go_quiet (fail); try go_wp2)
                                    go_ret
                                    exact ⟨by first | rfl | (simp [errW_none, errW_some] <;> rfl) | (simp [*, errW_none, errW_some] <;> rfl), by repeat (first | (with_reducible first | exact HB.out | apply below_alloc | apply pw_below_drewN | apply below_drew1) | exact HB.out)⟩
                                · rw [if_neg c26] at H
                                  exact absurd H (by simp)
                              · rw [if_neg c25] at H
                                exact absurd H (by simp)
                            · rw [if_neg c24] at H
                              exact absurd H (by simp)
                          · rw [if_neg c23] at H
                            have c23b0 : decide (x13_4 < x11_2) = false := decide_eq_false c23
                            clear c23
                            have H' := Aside0.mk H
                            clear H
                            go_wp2
                            repeat (go_quiet (fail); try go_wp2)
                            go_loopg [14] k4 (fun kq v14 w' => ∃ (x14_5 : Int), v14 = .int .i64 x14_5 ∧ Aside0 (beadlelaw22_CellsBelow.l2 kq t128 t137 x14_5 = some r) ∧ Aside0 (kq ≤ k4) ∧ Aside0 (Kd.R (Kd.int .i64) 3 w' w.heap.size (fun k_ => some k_ ≠ (v141 : Value).ownBlock) v132 t128) ∧ Aside0 (Kd.R (Kd.int .i64) 3 w' w.heap.size (fun k_ => some k_ ≠ (v132 : Value).ownBlock) v141 t137) ∧ Aside0 (Below w.heap.size w w'))
                            case atStart => exact ⟨(0), (by first | rfl | (simp; done) | (simp [*]; done)), H', ⟨Nat.le_refl _⟩, ⟨by (with_reducible repeat (first | apply Kd.R_alloc | apply Kd.R_drewN | apply Kd.R_drew)); exact HO_6.out⟩, ⟨by (with_reducible repeat (first | apply Kd.R_alloc | apply Kd.R_drewN | apply Kd.R_drew)); exact HO_9.out⟩, ⟨by repeat (first | (with_reducible first | exact HB.out | apply below_alloc | apply pw_below_drewN | apply below_drew1) | exact HB.out)⟩⟩
                            case round =>
                              clear H'
                              try clear c1
                              try clear p1
                              try clear q1
                              try clear hx1
                              try clear c2
                              try clear p2
                              try clear c4
                              try clear c6
                              try clear p6
                              try clear c8
                              try clear c10
                              try clear c14
                              try clear p14
                              try clear q14
                              try clear hx14
                              try clear c15
                              try clear c15b0
                              try clear p15
                              try clear q15
                              try clear hx15
                              try clear c16
                              try clear c16b0
                              try clear c18
                              try clear c18b0
                              try clear c22
                              try clear c23
                              try clear c23b0
                              try clear c24
                              try clear c24b0
                              try clear c25
                              try clear c25b0
                              try clear c26
                              try clear c26b0
                              try clear c27
                              try clear c27b0
                              try clear c27b1
                              try clear c28
                              try clear c28b0
                              try clear c28b1
                              try clear c29
                              try clear c29b0
                              try clear hx145_0
                              try clear hx146_0
                              try clear hx146_1
                              try clear hx146_2
                              try clear hx147_0
                              try clear hx147_1
                              try clear hx147_2
                              try clear hx148_0
                              try clear hx148_1
                              try clear hx148_2
                              try clear hx149_0
                              try clear hx149_1
                              try clear hx149_2
                              try clear hx150_0
                              try clear hx150_1
                              try clear hx150_2
                              try clear hx151_0
                              try clear hx151_1
                              try clear hx151_2
                              try clear p1
                              try clear p14
                              try clear p145
                              try clear p146
                              try clear p147
                              try clear p148
                              try clear p149
                              try clear p150
                              try clear p151
                              try clear p2
                              try clear p6
                              try clear q1
                              try clear q14
                              try clear q145
                              try clear q146
                              try clear q147
                              try clear q148
                              try clear q149
                              try clear q150
                              try clear q151
                              obtain ⟨x14_5, rfl, HA, HK5, HO_6, HO_9, HB⟩ := hrel
                              cases gk with
                              | zero => exact absurd HA.out (by simp [beadlelaw22_CellsBelow.l2])
                              | succ k5 =>
                                have H := HA.out
                                clear HA
                                simp only [beadlelaw22_CellsBelow.l2] at H
                                by_cases c38 : x14_5 < (t128.length : Int)
                                · rw [if_pos c38] at H
                                  have c38b0 : decide (x14_5 < (t128.length : Int)) = true := decide_eq_true c38
                                  clear c38
                                  by_cases c39 : x14_5 ≥ (t137.length : Int)
                                  · rw [if_pos c39] at H
                                    have c39b0 : decide ((t137.length : Int) ≤ x14_5) = true := decide_eq_true c39
                                    clear c39
                                    obtain rfl := Option.some.inj H
                                    obtain ⟨Ao40, co40, eo40⟩ := Kd.R_slice HO_6.out
                                    subst eo40
                                    obtain ⟨Ao41, co41, eo41⟩ := Kd.R_slice HO_9.out
                                    subst eo41
                                    go_wp2
                                    repeat (go_quiet (fail); try go_wp2)
                                    go_ret
                                    exact ⟨by first | rfl | (simp [errW_none, errW_some] <;> rfl) | (simp [*, errW_none, errW_some] <;> rfl), by repeat (first | (with_reducible first | exact HB.out | apply below_alloc | apply pw_below_drewN | apply below_drew1) | exact HB.out)⟩
                                  · rw [if_neg c39] at H
                                    have c39b0 : decide ((t137.length : Int) ≤ x14_5) = false := decide_eq_false c39
                                    clear c39
                                    by_cases c42 : 0 ≤ x14_5
                                    · rw [if_pos c42] at H
                                      have c42b0 : decide (0 ≤ x14_5) = true := decide_eq_true c42
                                      clear c42
                                      by_cases c43 : x14_5 < (t137.length : Int)
                                      · rw [if_pos c43] at H
                                        have c43b0 : decide (x14_5 < (t137.length : Int)) = true := decide_eq_true c43
                                        clear c43
                                        by_cases c44 : (rd t137 x14_5) = (rd t128 x14_5)
                                        · rw [if_pos c44] at H
                                          have c44b0 : ((rd t137 x14_5) == (rd t128 x14_5)) = true := beq_iff_eq.mpr c44
                                          have c44b1 : ((rd t137 x14_5) != (rd t128 x14_5)) = false := bne_eq_false_iff_eq.mpr c44
                                          clear c44
                                          have H' := Aside0.mk H
                                          clear H
                                          obtain ⟨Ao45, co45, eo45⟩ := Kd.R_slice HO_6.out
                                          subst eo45
                                          obtain ⟨Ao46, co46, eo46⟩ := Kd.R_slice HO_9.out
                                          subst eo46
                                          have p152 : 0 ≤ (x14_5 : Int) := of_decide_eq_true (by first | (with_reducible assumption) | assumption)
                                          have q152 : x14_5 < (t137.length : Int) := of_decide_eq_true (by first | (with_reducible assumption) | assumption)
                                          obtain ⟨ad152, e152, hx152_0⟩ := Kd.at_int (Kd.R_reads' HO_9.out).2.2 x14_5 p152 q152
                                          cases e152
                                          replace p152 := eq_true p152
                                          replace q152 := eq_true q152
                                          have p153 : 0 ≤ (x14_5 : Int) := of_decide_eq_true (by first | (with_reducible assumption) | assumption)
                                          have q153 : x14_5 < (t128.length : Int) := of_decide_eq_true (by first | (with_reducible assumption) | assumption)
                                          obtain ⟨ad153, e153, hx153_0⟩ := Kd.at_int (Kd.R_reads' HO_6.out).2.2 x14_5 p153 q153
                                          cases e153
                                          replace p153 := eq_true p153
                                          replace q153 := eq_true q153
                                          go_wp2
                                          repeat (go_quiet (fail); try go_wp2)
                                          go_roundg k5
                                          case measure => have := HJ4.out; have := HK2.out; have := HJ16.out; have := HK4.out; have := HK5.out; omega
                                          case rel => exact ⟨(wrap64 (x14_5 + 1)), (by first | rfl | (simp; done) | (simp [*]; done)), H', ⟨by have := HJ4.out; have := HK2.out; have := HJ16.out; have := HK4.out; have := HK5.out; omega⟩, ⟨by (with_reducible repeat (first | apply Kd.R_alloc | apply Kd.R_drewN | apply Kd.R_drew)); exact HO_6.out⟩, ⟨by (with_reducible repeat (first | apply Kd.R_alloc | apply Kd.R_drewN | apply Kd.R_drew)); exact HO_9.out⟩, ⟨by repeat (first | (with_reducible first | exact HB.out | apply below_alloc | apply pw_below_drewN | apply below_drew1) | exact HB.out)⟩⟩
                                        · rw [if_neg c44] at H
                                          have c44b0 : ((rd t137 x14_5) == (rd t128 x14_5)) = false := beq_eq_false_iff_ne.mpr c44
                                          have c44b1 : ((rd t137 x14_5) != (rd t128 x14_5)) = true := bne_iff_ne.mpr c44
                                          obtain rfl := Option.some.inj H
                                          obtain ⟨Ao47, co47, eo47⟩ := Kd.R_slice HO_6.out
                                          subst eo47
                                          obtain ⟨Ao48, co48, eo48⟩ := Kd.R_slice HO_9.out
                                          subst eo48
                                          have p152 : 0 ≤ (x14_5 : Int) := of_decide_eq_true (by first | (with_reducible assumption) | assumption)
                                          have q152 : x14_5 < (t137.length : Int) := of_decide_eq_true (by first | (with_reducible assumption) | assumption)
                                          obtain ⟨ad152, e152, hx152_0⟩ := Kd.at_int (Kd.R_reads' HO_9.out).2.2 x14_5 p152 q152
                                          cases e152
                                          replace p152 := eq_true p152
                                          replace q152 := eq_true q152
                                          have p153 : 0 ≤ (x14_5 : Int) := of_decide_eq_true (by first | (with_reducible assumption) | assumption)
                                          have q153 : x14_5 < (t128.length : Int) := of_decide_eq_true (by first | (with_reducible assumption) | assumption)
                                          obtain ⟨ad153, e153, hx153_0⟩ := Kd.at_int (Kd.R_reads' HO_6.out).2.2 x14_5 p153 q153
                                          cases e153
                                          replace p153 := eq_true p153
                                          replace q153 := eq_true q153
                                          go_wp2
                                          repeat (go_quiet (fail); try go_wp2)
                                          go_ret
                                          exact ⟨by first | rfl | (simp [errW_none, errW_some] <;> rfl) | (simp [*, errW_none, errW_some] <;> rfl), by repeat (first | (with_reducible first | exact HB.out | apply below_alloc | apply pw_below_drewN | apply below_drew1) | exact HB.out)⟩
                                      · rw [if_neg c43] at H
                                        exact absurd H (by simp)
                                    · rw [if_neg c42] at H
                                      exact absurd H (by simp)
                                · rw [if_neg c38] at H
                                  have c38b0 : decide (x14_5 < (t128.length : Int)) = false := decide_eq_false c38
                                  clear c38
                                  obtain rfl := Option.some.inj H
                                  obtain ⟨Ao49, co49, eo49⟩ := Kd.R_slice HO_6.out
                                  subst eo49
                                  go_wp2
                                  repeat (go_quiet (fail); try go_wp2)
                                  go_ret
                                  exact ⟨by first | rfl | (simp [errW_none, errW_some] <;> rfl) | (simp [*, errW_none, errW_some] <;> rfl), by repeat (first | (with_reducible first | exact HB.out | apply below_alloc | apply pw_below_drewN | apply below_drew1) | exact HB.out)⟩
  · replace c4 := Bool.eq_false_iff.mpr c4
    subst c4
    have H1 : (some false) = some r := by rw [if_neg (show ¬ (false = true) by decide)] at H; exact H
    clear H
    have H := H1
    clear H1
    obtain rfl := Option.some.inj H
    go_enter Try.func6, Try.ntmps6
    go_wp2_with (first | (go_at_call 7; (with_reducible refine (beadlelaw22_speaks.calls  false _ A3.out).mono ?_); rintro e w50 ⟨rfl, hb⟩; have n0_ := Aside0.mk (below_step (by repeat (first | (with_reducible first | exact HB.out | apply below_alloc | apply pw_below_drewN | apply below_drew1) | exact HB.out)) hb); clear HB; have HB := n0_; clear n0_; (try clear hb); (try clear hb2); (try clear hk); (try clear hi)))
    repeat (go_quiet (first | (go_at_call 7; (with_reducible refine (beadlelaw22_speaks.calls  false _ A3.out).mono ?_); rintro e w50 ⟨rfl, hb⟩; have n0_ := Aside0.mk (below_step (by repeat (first | (with_reducible first | exact HB.out | apply below_alloc | apply pw_below_drewN | apply below_drew1) | exact HB.out)) hb); clear HB; have HB := n0_; clear n0_; (try clear hb); (try clear hb2); (try clear hk); (try clear hi))); try go_wp2_with (first | (go_at_call 7; (with_reducible refine (beadlelaw22_speaks.calls  false _ A3.out).mono ?_); rintro e w50 ⟨rfl, hb⟩; have n0_ := Aside0.mk (below_step (by repeat (first | (with_reducible first | exact HB.out | apply below_alloc | apply pw_below_drewN | apply below_drew1) | exact HB.out)) hb); clear HB; have HB := n0_; clear n0_; (try clear hb); (try clear hb2); (try clear hk); (try clear hi))))
    go_ret
    exact ⟨by first | rfl | (simp [errW_none, errW_some] <;> rfl) | (simp [*, errW_none, errW_some] <;> rfl), by repeat (first | (with_reducible first | exact HB.out | apply below_alloc | apply pw_below_drewN | apply below_drew1) | exact HB.out)⟩

end Go.Proofs.Ytdekcbpngbgjmaa.PC
