/- Written by a program of this session out of the translation: plain functions of the Go functions here and the contracts that tie them to the code; no condition beside those in each statement. -/
import Derived.Test.YtdekcbpngbgjmaaPCx0
import Derived.Test.YtdekcbpngbgjmaaPCx3
import Derived.Test.YtdekcbpngbgjmaaHLay
namespace Go.Proofs.Ytdekcbpngbgjmaa.PC
open Go.RowKit Go.Proofs.YtdekcbpngbgjmaaW.PrintWords Go.Proofs.YtdekcbpngbgjmaaW.PrintLast Go.Proofs.YtdekcbpngbgjmaaW.PrintMore
attribute [local go_sem] max2_int min2_int max_two min_two max_three min_three max_four min_four   -- for this text's walks alone
set_option linter.unusedVariables false
set_option linter.unusedSimpArgs false

/-! ### beadlelaw22_CellsOnce: function 4 -/
mutual
def beadlelaw22_CellsOnce.j0 : Nat → List (List (S37)) → Bool → Option (Bool)
  | 0, _, _ => none
  | k + 1, x0, x25 => if x25 = true then (some true) else ((cells_Lay.f x0).bind fun bt126 => (beadlelaw22_CellsOnce.l0 k x0 bt126.1 bt126.2.1 ([] : List (S37)) 0))
def beadlelaw22_CellsOnce.l0 : Nat → List (List (S37)) → List (S33) → List Int → List (S37) → Int → Option (Bool)
  | 0, _, _, _, _, _ => none
  | k + 1, x0, x3, x4, x6, x7 => if x7 < (x0.length : Int) then (if 0 ≤ x7 then (if x6.length + (rd_L4 x0 x7).length < 8796093022208 then (beadlelaw22_CellsOnce.l0 k x0 x3 x4 (x6 ++ (rd_L4 x0 x7)) (wrap64 (x7 + 1))) else (none)) else (none)) else (if (x3.length : Int) > (x6.length : Int) then (some false) else (beadlelaw22_CellsOnce.l1 k x3 x4 x6 0 0))
def beadlelaw22_CellsOnce.l1 : Nat → List (S33) → List Int → List (S37) → Int → Int → Option (Bool)
  | 0, _, _, _, _, _ => none
  | k + 1, x3, x4, x6, x8, x9 => if x9 < (x3.length : Int) then (beadlelaw22_CellsOnce.l2 k x3 x4 x6 x8 x9 false 0) else (some (x8 == (x4.length : Int)))
def beadlelaw22_CellsOnce.l2 : Nat → List (S33) → List Int → List (S37) → Int → Int → Bool → Int → Option (Bool)
  | 0, _, _, _, _, _, _, _ => none
  | k + 1, x3, x4, x6, x8, x9, x10, x11 => if x11 < x9 then (if 0 ≤ x9 then (if x9 < (x3.length : Int) then (if 0 ≤ x11 then (if x11 < (x3.length : Int) then (if x9 < (x6.length : Int) then (if x11 < (x6.length : Int) then (if x10 = true then (beadlelaw22_CellsOnce.l2 k x3 x4 x6 x8 x9 true (wrap64 (x11 + 1))) else (if ((rd_T33 x3 x9).f0) < (wrap64 (((rd_T33 x3 x11).f0) + ((rd_T33 x3 x11).f2))) then (if ((rd_T33 x3 x11).f0) < (wrap64 (((rd_T33 x3 x9).f0) + ((rd_T33 x3 x9).f2))) then (if ((rd_T33 x3 x9).f1) < (wrap64 (((rd_T33 x3 x11).f1) + (mn (mx ((rd_T37 x6 x11).f1) 1) 1000))) then (beadlelaw22_CellsOnce.l2 k x3 x4 x6 x8 x9 (decide (((rd_T33 x3 x11).f1) < (wrap64 (((rd_T33 x3 x9).f1) + (mn (mx ((rd_T37 x6 x9).f1) 1) 1000))))) (wrap64 (x11 + 1))) else (beadlelaw22_CellsOnce.l2 k x3 x4 x6 x8 x9 false (wrap64 (x11 + 1)))) else (beadlelaw22_CellsOnce.l2 k x3 x4 x6 x8 x9 false (wrap64 (x11 + 1)))) else (beadlelaw22_CellsOnce.l2 k x3 x4 x6 x8 x9 false (wrap64 (x11 + 1))))) else (none)) else (none)) else (none)) else (none)) else (none)) else (none)) else (if x8 < (x4.length : Int) then (if 0 ≤ x8 then (beadlelaw22_CellsOnce.j4 k x3 x4 x6 x8 x9 x10 ((rd x4 x8) == x9)) else (none)) else (beadlelaw22_CellsOnce.j4 k x3 x4 x6 x8 x9 x10 false))
def beadlelaw22_CellsOnce.j4 : Nat → List (S33) → List Int → List (S37) → Int → Int → Bool → Bool → Option (Bool)
  | 0, _, _, _, _, _, _, _ => none
  | k + 1, x3, x4, x6, x8, x9, x10, x16 => if x16 = true then (if (x16 != x10) = true then (some false) else (if 0 ≤ x9 then (if x9 < (x3.length : Int) then (if ((rd_T33 x3 x9).f2) < 1 then (some false) else (beadlelaw22_CellsOnce.l1 k x3 x4 x6 (wrap64 (x8 + 1)) (wrap64 (x9 + 1)))) else (none)) else (none))) else (if (x16 != x10) = true then (some false) else (if 0 ≤ x9 then (if x9 < (x3.length : Int) then (if ((rd_T33 x3 x9).f2) < 1 then (some false) else (beadlelaw22_CellsOnce.l1 k x3 x4 x6 x8 (wrap64 (x9 + 1)))) else (none)) else (none)))
end
def beadlelaw22_CellsOnce.f (k : Nat) (l0 : List (List (S37))) : Option (Bool) := (beadlelaw22_speaks.f).bind fun t124 => (if t124 = true then ((beadlelaw22_many.f k l0).bind fun t125 => (if t125 = true then (beadlelaw22_CellsOnce.j0 k l0 true) else (beadlelaw22_CellsOnce.j0 k l0 (decide ((l0.length : Int) > 40))))) else (some false))
theorem beadlelaw22_CellsOnce.mono_l : ∀ k, (∀ y0 y1, LeO (beadlelaw22_CellsOnce.j0 k y0 y1) (beadlelaw22_CellsOnce.j0 (k + 1) y0 y1)) ∧ (∀ y0 y1 y2 y3 y4, LeO (beadlelaw22_CellsOnce.l0 k y0 y1 y2 y3 y4) (beadlelaw22_CellsOnce.l0 (k + 1) y0 y1 y2 y3 y4)) ∧ (∀ y0 y1 y2 y3 y4, LeO (beadlelaw22_CellsOnce.l1 k y0 y1 y2 y3 y4) (beadlelaw22_CellsOnce.l1 (k + 1) y0 y1 y2 y3 y4)) ∧ (∀ y0 y1 y2 y3 y4 y5 y6, LeO (beadlelaw22_CellsOnce.l2 k y0 y1 y2 y3 y4 y5 y6) (beadlelaw22_CellsOnce.l2 (k + 1) y0 y1 y2 y3 y4 y5 y6)) ∧ (∀ y0 y1 y2 y3 y4 y5 y6, LeO (beadlelaw22_CellsOnce.j4 k y0 y1 y2 y3 y4 y5 y6) (beadlelaw22_CellsOnce.j4 (k + 1) y0 y1 y2 y3 y4 y5 y6))
  | 0 => ⟨fun _ _ r h => by simp [beadlelaw22_CellsOnce.j0] at h, fun _ _ _ _ _ r h => by simp [beadlelaw22_CellsOnce.l0] at h, fun _ _ _ _ _ r h => by simp [beadlelaw22_CellsOnce.l1] at h, fun _ _ _ _ _ _ _ r h => by simp [beadlelaw22_CellsOnce.l2] at h, fun _ _ _ _ _ _ _ r h => by simp [beadlelaw22_CellsOnce.j4] at h⟩
  | k + 1 => by
    obtain ⟨ih0, ih1, ih2, ih3, ih4⟩ := beadlelaw22_CellsOnce.mono_l k
    refine ⟨?_, ?_, ?_, ?_, ?_⟩
    · intro y0 y1
      unfold beadlelaw22_CellsOnce.j0
      repeat' first
      | (with_reducible exact ih0 _ _)
      | (with_reducible exact ih1 _ _ _ _ _)
      | (with_reducible exact ih2 _ _ _ _ _)
      | (with_reducible exact ih3 _ _ _ _ _ _ _)
      | (with_reducible exact ih4 _ _ _ _ _ _ _)
      | (with_reducible exact beadlelaw22_many.mono _ _)
      | (with_reducible exact LeO.refl _)
      | (with_reducible exact LeO.none _)
      | (with_reducible refine LeO.ite ?_ ?_)
      | (with_reducible refine LeO.bind ?_ (fun _ => ?_))
      | exact ih0 _ _
      | exact ih1 _ _ _ _ _
      | exact ih2 _ _ _ _ _
      | exact ih3 _ _ _ _ _ _ _
      | exact ih4 _ _ _ _ _ _ _
      | exact beadlelaw22_many.mono _ _
      | exact LeO.none _
      | refine LeO.ite ?_ ?_
      | refine LeO.bind ?_ (fun _ => ?_)
    · intro y0 y1 y2 y3 y4
      unfold beadlelaw22_CellsOnce.l0
      repeat' first
      | (with_reducible exact ih0 _ _)
      | (with_reducible exact ih1 _ _ _ _ _)
      | (with_reducible exact ih2 _ _ _ _ _)
      | (with_reducible exact ih3 _ _ _ _ _ _ _)
      | (with_reducible exact ih4 _ _ _ _ _ _ _)
      | (with_reducible exact beadlelaw22_many.mono _ _)
      | (with_reducible exact LeO.refl _)
      | (with_reducible exact LeO.none _)
      | (with_reducible refine LeO.ite ?_ ?_)
      | (with_reducible refine LeO.bind ?_ (fun _ => ?_))
      | exact ih0 _ _
      | exact ih1 _ _ _ _ _
      | exact ih2 _ _ _ _ _
      | exact ih3 _ _ _ _ _ _ _
      | exact ih4 _ _ _ _ _ _ _
      | exact beadlelaw22_many.mono _ _
      | exact LeO.none _
      | refine LeO.ite ?_ ?_
      | refine LeO.bind ?_ (fun _ => ?_)
    · intro y0 y1 y2 y3 y4
      unfold beadlelaw22_CellsOnce.l1
      repeat' first
      | (with_reducible exact ih0 _ _)
      | (with_reducible exact ih1 _ _ _ _ _)
      | (with_reducible exact ih2 _ _ _ _ _)
      | (with_reducible exact ih3 _ _ _ _ _ _ _)
      | (with_reducible exact ih4 _ _ _ _ _ _ _)
      | (with_reducible exact beadlelaw22_many.mono _ _)
      | (with_reducible exact LeO.refl _)
      | (with_reducible exact LeO.none _)
      | (with_reducible refine LeO.ite ?_ ?_)
      | (with_reducible refine LeO.bind ?_ (fun _ => ?_))
      | exact ih0 _ _
      | exact ih1 _ _ _ _ _
      | exact ih2 _ _ _ _ _
      | exact ih3 _ _ _ _ _ _ _
      | exact ih4 _ _ _ _ _ _ _
      | exact beadlelaw22_many.mono _ _
      | exact LeO.none _
      | refine LeO.ite ?_ ?_
      | refine LeO.bind ?_ (fun _ => ?_)
    · intro y0 y1 y2 y3 y4 y5 y6
      unfold beadlelaw22_CellsOnce.l2
      repeat' first
      | (with_reducible exact ih0 _ _)
      | (with_reducible exact ih1 _ _ _ _ _)
      | (with_reducible exact ih2 _ _ _ _ _)
      | (with_reducible exact ih3 _ _ _ _ _ _ _)
      | (with_reducible exact ih4 _ _ _ _ _ _ _)
      | (with_reducible exact beadlelaw22_many.mono _ _)
      | (with_reducible exact LeO.refl _)
      | (with_reducible exact LeO.none _)
      | (with_reducible refine LeO.ite ?_ ?_)
      | (with_reducible refine LeO.bind ?_ (fun _ => ?_))
      | exact ih0 _ _
      | exact ih1 _ _ _ _ _
      | exact ih2 _ _ _ _ _
      | exact ih3 _ _ _ _ _ _ _
      | exact ih4 _ _ _ _ _ _ _
      | exact beadlelaw22_many.mono _ _
      | exact LeO.none _
      | refine LeO.ite ?_ ?_
      | refine LeO.bind ?_ (fun _ => ?_)
    · intro y0 y1 y2 y3 y4 y5 y6
      unfold beadlelaw22_CellsOnce.j4
      repeat' first
      | (with_reducible exact ih0 _ _)
      | (with_reducible exact ih1 _ _ _ _ _)
      | (with_reducible exact ih2 _ _ _ _ _)
      | (with_reducible exact ih3 _ _ _ _ _ _ _)
      | (with_reducible exact ih4 _ _ _ _ _ _ _)
      | (with_reducible exact beadlelaw22_many.mono _ _)
      | (with_reducible exact LeO.refl _)
      | (with_reducible exact LeO.none _)
      | (with_reducible refine LeO.ite ?_ ?_)
      | (with_reducible refine LeO.bind ?_ (fun _ => ?_))
      | exact ih0 _ _
      | exact ih1 _ _ _ _ _
      | exact ih2 _ _ _ _ _
      | exact ih3 _ _ _ _ _ _ _
      | exact ih4 _ _ _ _ _ _ _
      | exact beadlelaw22_many.mono _ _
      | exact LeO.none _
      | refine LeO.ite ?_ ?_
      | refine LeO.bind ?_ (fun _ => ?_)
theorem beadlelaw22_CellsOnce.mono : ∀ a0 k, LeO (beadlelaw22_CellsOnce.f k a0) (beadlelaw22_CellsOnce.f (k + 1) a0) := by
  intro a0 k
  obtain ⟨ih0, ih1, ih2, ih3, ih4⟩ := beadlelaw22_CellsOnce.mono_l k
  unfold beadlelaw22_CellsOnce.f
  repeat' first
      | (with_reducible exact ih0 _ _)
      | (with_reducible exact ih1 _ _ _ _ _)
      | (with_reducible exact ih2 _ _ _ _ _)
      | (with_reducible exact ih3 _ _ _ _ _ _ _)
      | (with_reducible exact ih4 _ _ _ _ _ _ _)
      | (with_reducible exact beadlelaw22_many.mono _ _)
      | (with_reducible exact LeO.refl _)
      | (with_reducible exact LeO.none _)
      | (with_reducible refine LeO.ite ?_ ?_)
      | (with_reducible refine LeO.bind ?_ (fun _ => ?_))
      | exact ih0 _ _
      | exact ih1 _ _ _ _ _
      | exact ih2 _ _ _ _ _
      | exact ih3 _ _ _ _ _ _ _
      | exact ih4 _ _ _ _ _ _ _
      | exact beadlelaw22_many.mono _ _
      | exact LeO.none _
      | refine LeO.ite ?_ ?_
      | refine LeO.bind ?_ (fun _ => ?_)
def beadlelaw22_CellsOnce.T21 : Bool × List (List Nat × List Nat) := (true, [([], []), ([], []), ([0, 1], [0, 1]), ([2], [2]), ([], []), ([], []), ([4, 5], [4, 5]), ([6], [6]), ([], []), ([], []), ([8, 3, 0, 1, 2, 3, 8, 9], [3, 8]), ([9, 7, 10, 0, 1, 2, 3, 4, 5, 6, 7, 8, 9, 10], [7, 9])])
def beadlelaw22_CellsOnce.B21 : List Nat := [0, 0, 3, 7, 0, 0, 48, 112, 0, 0, 783, 2047]
theorem beadlelaw22_CellsOnce.tab21 : rtab .any (opsOf Try.f4 21) = beadlelaw22_CellsOnce.T21 := by kernel_rfl
theorem beadlelaw22_CellsOnce.bits21 : waitsOk beadlelaw22_CellsOnce.T21.2 beadlelaw22_CellsOnce.B21 = true := by kernel_rfl
def beadlelaw22_CellsOnce.T22 : Bool × List (List Nat × List Nat) := (true, [([], []), ([], []), ([0, 1], [0, 1]), ([2], [2]), ([3], [3]), ([4], [4]), ([5], [5]), ([], []), ([], []), ([7, 8], [7, 8]), ([9], [9]), ([10], [10]), ([11], [11]), ([12], [12]), ([6, 0, 1, 2, 3, 4, 5, 6], [6]), ([13, 14, 0, 1, 2, 3, 4, 5, 6, 7, 8, 9, 10, 11, 12, 13, 14], [13])])
def beadlelaw22_CellsOnce.B22 : List Nat := [0, 0, 3, 7, 15, 31, 63, 0, 0, 384, 896, 1920, 3968, 8064, 127, 32767]
theorem beadlelaw22_CellsOnce.tab22 : rtab .any (opsOf Try.f4 22) = beadlelaw22_CellsOnce.T22 := by kernel_rfl
theorem beadlelaw22_CellsOnce.bits22 : waitsOk beadlelaw22_CellsOnce.T22.2 beadlelaw22_CellsOnce.B22 = true := by kernel_rfl
set_option maxHeartbeats 8000000 in
set_option maxRecDepth 100000 in
theorem beadlelaw22_CellsOnce.calls (k : Nat) (A0 : Option Addr) (c0 : Nat) (l0 : List (List (S37))) (r : Bool) (w : World) (hr0 : Kd.C (Kd.slice 37 k37) w A0 l0.length l0) (hc0 : l0.length ≤ c0) (h : beadlelaw22_CellsOnce.f k l0 = some r) :
    Calls Try.prog 4 #[.slice A0 l0.length c0] w fun e w' => e = .returned (.bool r) ∧ Below w.heap.size w w' := by
  have hu33 := Try.underlying33
  have HR0 := Aside0.mk hr0
  have HC0 := Aside0.mk hc0
  clear hr0 hc0
  have HB := Aside0.mk (Below.refl w.heap.size w)
  have H : ((beadlelaw22_speaks.f).bind fun t124 => (if t124 = true then ((beadlelaw22_many.f k l0).bind fun t125 => (if t125 = true then (beadlelaw22_CellsOnce.j0 k l0 true) else (beadlelaw22_CellsOnce.j0 k l0 (decide ((l0.length : Int) > 40))))) else (some false))) = some r := h
  clear h
  replace H := Option.bind_eq_some_iff.mp H
  obtain ⟨t124, A20, H⟩ := H
  replace H : (if t124 = true then ((beadlelaw22_many.f k l0).bind fun t125 => (if t125 = true then (beadlelaw22_CellsOnce.j0 k l0 true) else (beadlelaw22_CellsOnce.j0 k l0 (decide ((l0.length : Int) > 40))))) else (some false)) = some r := H
  have A2 := Aside0.mk A20
  clear A20
  by_cases c3 : t124 = true
  · subst c3
    have H1 : ((beadlelaw22_many.f k l0).bind fun t125 => (if t125 = true then (beadlelaw22_CellsOnce.j0 k l0 true) else (beadlelaw22_CellsOnce.j0 k l0 (decide ((l0.length : Int) > 40))))) = some r := by rw [if_pos rfl] at H; exact H
    clear H
    have H := H1
    clear H1
    have HC4 := Aside0.mk H
    clear H
    go_enter Try.func4, Try.ntmps4
    go_upto_region 3 with (first | ((with_reducible refine gate_callee (f := 7) rfl ?_); refine goesL_ (some 17) rfl rfl Try.func7 (by kernel_rfl) rfl #[] rfl (by (try simp only [List.map_toArray, List.map_cons, List.map_nil]); first | done | rfl | (simp only [List.length_drop, List.length_take]; rfl)) ?_; (with_reducible refine (beadlelaw22_speaks.calls  true _ A2.out).mono ?_); rintro e w5 ⟨rfl, hb⟩; refine ⟨_, rfl, ?_⟩; have n0_ := Aside0.mk (below_step (by repeat (first | (with_reducible first | exact HB.out | apply below_alloc | apply pw_below_drewN | apply below_drew1) | exact HB.out)) hb); clear HB; have HB := n0_; clear n0_; (try clear hb); (try clear hb2); (try clear hk); (try clear hi)))
    (try simp only [Act.put, List.setIfInBounds_toArray, List.set_cons_zero, List.set_cons_succ])
    go_cut [25] (fun v25 wc => ∃ (kq : Nat) (x25_3 : Bool), v25 = .bool x25_3 ∧ Aside0 (beadlelaw22_CellsOnce.j0 kq l0 x25_3 = some r) ∧ Aside0 (kq ≤ k) ∧ Aside0 (Below w.heap.size w wc))
    case first =>
      have H := HC4.out
      clear HC4
      replace H := Option.bind_eq_some_iff.mp H
      obtain ⟨t125, A60, H⟩ := H
      replace H : (if t125 = true then (beadlelaw22_CellsOnce.j0 k l0 true) else (beadlelaw22_CellsOnce.j0 k l0 (decide ((l0.length : Int) > 40)))) = some r := H
      have A6 := Aside0.mk A60
      clear A60
      by_cases c7 : t125 = true
      · subst c7
        have H1 : (beadlelaw22_CellsOnce.j0 k l0 true) = some r := by rw [if_pos rfl] at H; exact H
        clear H
        have H := H1
        clear H1
        have H' := Aside0.mk H
        clear H
        go_wp2_with (first | ((with_reducible refine gate_callee (f := 8) rfl ?_); refine goesL_ (some 20) rfl rfl Try.func8 (by kernel_rfl) rfl #[.slice A0 l0.length c0] rfl (by (try simp only [List.map_toArray, List.map_cons, List.map_nil]); first | done | rfl | (simp only [List.length_drop, List.length_take]; rfl)) ?_; (with_reducible refine (beadlelaw22_many.calls k _ _ l0 true _ ?side1 ?side2 A6.out).mono ?_); (case side1 => repeat (first | exact (Kd.C_below HR0.out HB.out) | (with_reducible refine Kd.C_alloc ?_ _) | (with_reducible refine Kd.C_drewN ?_ _) | (with_reducible refine Kd.C_drew ?_))); (case side2 => exact HC0.out); rintro e w' ⟨rfl, ⟨nd, rfl⟩⟩; refine ⟨_, rfl, ?_⟩))
        go_meet
        case rel => exact ⟨_, (true), (by first | rfl | (simp; done) | (simp [*]; done)), H', ⟨by first | omega | exact Nat.le_refl _⟩, ⟨by repeat (first | (with_reducible first | exact HB.out | apply below_alloc | apply pw_below_drewN | apply below_drew1) | exact HB.out)⟩⟩
      · replace c7 := Bool.eq_false_iff.mpr c7
        subst c7
        have H1 : (beadlelaw22_CellsOnce.j0 k l0 (decide ((l0.length : Int) > 40))) = some r := by rw [if_neg (show ¬ (false = true) by decide)] at H; exact H
        clear H
        have H := H1
        clear H1
        have H' := Aside0.mk H
        clear H
        go_wp2_with (first | ((with_reducible refine gate_callee (f := 8) rfl ?_); refine goesL_ (some 20) rfl rfl Try.func8 (by kernel_rfl) rfl #[.slice A0 l0.length c0] rfl (by (try simp only [List.map_toArray, List.map_cons, List.map_nil]); first | done | rfl | (simp only [List.length_drop, List.length_take]; rfl)) ?_; (with_reducible refine (beadlelaw22_many.calls k _ _ l0 false _ ?side1 ?side2 A6.out).mono ?_); (case side1 => repeat (first | exact (Kd.C_below HR0.out HB.out) | (with_reducible refine Kd.C_alloc ?_ _) | (with_reducible refine Kd.C_drewN ?_ _) | (with_reducible refine Kd.C_drew ?_))); (case side2 => exact HC0.out); rintro e w' ⟨rfl, ⟨nd, rfl⟩⟩; refine ⟨_, rfl, ?_⟩))
        go_meet
        case rel => exact ⟨_, (decide ((l0.length : Int) > 40)), (by first | rfl | (simp; done) | (simp [*]; done)), H', ⟨by first | omega | exact Nat.le_refl _⟩, ⟨by repeat (first | (with_reducible first | exact HB.out | apply below_alloc | apply pw_below_drewN | apply below_drew1) | exact HB.out)⟩⟩
    case rest =>
      clear HC4
      try clear p2
      try clear c3
      try clear c4
      try clear c7
      obtain ⟨kq, x25_3, rfl, HA, HJ3, HB⟩ := hcut
      cases kq with
      | zero => exact absurd HA.out (by simp [beadlelaw22_CellsOnce.j0])
      | succ kj3 =>
        have H := HA.out
        clear HA
        simp only [beadlelaw22_CellsOnce.j0] at H
        by_cases c8 : x25_3 = true
        · subst c8
          have H1 : (some true) = some r := by rw [if_pos rfl] at H; exact H
          clear H
          have H := H1
          clear H1
          obtain rfl := Option.some.inj H
          go_wp2
          go_ret
          exact ⟨by first | rfl | (simp [errW_none, errW_some] <;> rfl) | (simp [*, errW_none, errW_some] <;> rfl), by repeat (first | (with_reducible first | exact HB.out | apply below_alloc | apply pw_below_drewN | apply below_drew1) | exact HB.out)⟩
        · replace c8 := Bool.eq_false_iff.mpr c8
          subst c8
          have H1 : ((cells_Lay.f l0).bind fun bt126 => (beadlelaw22_CellsOnce.l0 kj3 l0 bt126.1 bt126.2.1 ([] : List (S37)) 0)) = some r := by rw [if_neg (show ¬ (false = true) by decide)] at H; exact H
          clear H
          have H := H1
          clear H1
          replace H := Option.bind_eq_some_iff.mp H
          obtain ⟨⟨t126, t127, t128⟩, A90, H⟩ := H
          replace H : (beadlelaw22_CellsOnce.l0 kj3 l0 t126 t127 ([] : List (S37)) 0) = some r := H
          have A9 := Aside0.mk A90
          clear A90
          have H' := Aside0.mk H
          clear H
          go_wp2_with (first | ((with_reducible refine gate_callee (f := 9) rfl ?_); refine goesL_ (some 28) rfl rfl Try.func9 (by kernel_rfl) rfl #[.slice A0 l0.length c0] rfl (by (try simp only [List.map_toArray, List.map_cons, List.map_nil]); first | done | rfl | (simp only [List.length_drop, List.length_take]; rfl)) ?_; (with_reducible refine (cells_Lay.calls _ _ l0 t126 t127 t128 _ ?side1 ?side2 A9.out).mono ?_); (case side1 => repeat (first | exact (Kd.C_below HR0.out HB.out) | (with_reducible refine Kd.C_alloc ?_ _) | (with_reducible refine Kd.C_drewN ?_ _) | (with_reducible refine Kd.C_drew ?_))); (case side2 => exact HC0.out); rintro e w10 ⟨v129, v131, v133, rfl, ho0, ho1, ho2, hb⟩; refine ⟨_, rfl, ?_⟩; have n0_ := Aside0.mk (Kd.R_lower ho0 (below_size (by repeat (first | (with_reducible first | exact HB.out | apply below_alloc | apply pw_below_drewN | apply below_drew1) | exact HB.out)))); have n1_ := Aside0.mk (Kd.R_lower ho1 (below_size (by repeat (first | (with_reducible first | exact HB.out | apply below_alloc | apply pw_below_drewN | apply below_drew1) | exact HB.out)))); have n2_ := Aside0.mk (Kd.R_lower ho2 (below_size (by repeat (first | (with_reducible first | exact HB.out | apply below_alloc | apply pw_below_drewN | apply below_drew1) | exact HB.out)))); have n3_ := Aside0.mk (below_step (by repeat (first | (with_reducible first | exact HB.out | apply below_alloc | apply pw_below_drewN | apply below_drew1) | exact HB.out)) hb); clear HB; have HO130 := n0_; have HO132 := n1_; have HO134 := n2_; have HB := n3_; clear n0_ n1_ n2_ n3_; (try clear hb); (try clear hb2); (try clear hk); (try clear hi); (try clear ho0); (try clear ho1); (try clear ho2)))
          go_loopg [6, 7] kj3 (fun kq v6 v7 w' => ∃ (x6_2 : List (S37)) (x7_2 : Int), v7 = .int .i64 x7_2 ∧ Aside0 (beadlelaw22_CellsOnce.l0 kq l0 t126 t127 x6_2 x7_2 = some r) ∧ Aside0 (kq ≤ kj3) ∧ Aside0 (Kd.R k33 33 w' w.heap.size (fun _ => True) v129 t126) ∧ Aside0 (Kd.R (Kd.int .i64) 3 w' w.heap.size (fun _ => True) v131 t127) ∧ Aside0 (Kd.R k37 37 w' w.heap.size (fun _ => True) v6 x6_2) ∧ Aside0 (Below w.heap.size w w'))
          case atStart => exact ⟨(([] : List (S37))), (0), (by first | rfl | (simp; done) | (simp [*]; done)), H', ⟨Nat.le_refl _⟩, ⟨by (with_reducible repeat (first | apply Kd.R_alloc | apply Kd.R_drewN | apply Kd.R_drew)); exact HO130.out⟩, ⟨by (with_reducible repeat (first | apply Kd.R_alloc | apply Kd.R_drewN | apply Kd.R_drew)); exact Kd.R_mono HO132.out (fun _ hk => trivial)⟩, ⟨by first | exact Kd.R_nil _ _ _ _ _ | exact Kd.N_nil _ _ _ _ _ | exact Kd.V_nil _ _ _ _ _ | exact Kd.Q_nil _ _ _ _ _ | exact Kd.S_nil _ _ _ _ _⟩, ⟨by repeat (first | (with_reducible first | exact HB.out | apply below_alloc | apply pw_below_drewN | apply below_drew1) | exact HB.out)⟩⟩
          case round =>
            clear H'
            try clear p2
            try clear c3
            try clear c4
            try clear c7
            try clear c8
            try clear c9
            try clear p2
            obtain ⟨x6_2, x7_2, rfl, HA, HK2, HO_3, HO_4, HO_6, HB⟩ := hrel
            cases gk with
            | zero => exact absurd HA.out (by simp [beadlelaw22_CellsOnce.l0])
            | succ k2 =>
              have H := HA.out
              clear HA
              simp only [beadlelaw22_CellsOnce.l0] at H
              by_cases c11 : x7_2 < (l0.length : Int)
              · rw [if_pos c11] at H
                have c11b0 : decide (x7_2 < (l0.length : Int)) = true := decide_eq_true c11
                clear c11
                by_cases c12 : 0 ≤ x7_2
                · rw [if_pos c12] at H
                  have c12b0 : decide (0 ≤ x7_2) = true := decide_eq_true c12
                  clear c12
                  by_cases c13 : x6_2.length + (rd_L4 l0 x7_2).length < 8796093022208
                  · rw [if_pos c13] at H
                    have LMc13 := Aside0.mk c13
                    clear c13
                    obtain ⟨y136, hy136⟩ : ∃ y_ : List (S37), y_ = (x6_2 ++ (rd_L4 l0 x7_2)) := ⟨_, rfl⟩
                    replace H : (beadlelaw22_CellsOnce.l0 k2 l0 t126 t127 y136 (wrap64 (x7_2 + 1))) = some r := by first | (rw [hy136]; with_reducible exact H) | (have H2_ := (Option.bind_some _ _).symm.trans H; rw [hy136]; with_reducible exact H2_) | (have H2_ := (Option.bind_some _ _).symm.trans H; with_reducible exact H2_) | with_reducible exact H | (rw [hy136]; exact H) | exact H
                    have Ny136 := Aside0.mk hy136
                    clear hy136
                    have H' := Aside0.mk H
                    clear H
                    have p135 : 0 ≤ (x7_2 : Int) := of_decide_eq_true (by first | (with_reducible assumption) | assumption)
                    have q135 : x7_2 < (l0.length : Int) := of_decide_eq_true (by first | (with_reducible assumption) | assumption)
                    obtain ⟨ad135, A135_0, c135_0, e135, hx135_0, hl135_0, hi135_0⟩ := at_L4 HR0.out x7_2 p135 q135
                    cases e135
                    replace hx135_0 := (HB.out.cell (World.block_lt_of_cell? w _ hx135_0)).trans hx135_0
                    have HR135_0 := Aside0.mk hi135_0
                    have HC135_0 := Aside0.mk hl135_0
                    clear hi135_0 hl135_0
                    replace p135 := eq_true p135
                    replace q135 := eq_true q135
                    go_wp2_with (first | ((with_reducible refine gate_builtin (b := .append) (xs := #[.tmp 38, .tmp 42]) rfl ?_); (try (refine gate_guard (by rfl) ?_; dsimp only)); at_builtin; refine Kd.R_append_rows k37 (w0 := w) w.heap.size rfl (.tmp 38) (.tmp 42) 36 37 (.agg #[(.int .i64 0), (.int .i64 0)]) 16 rfl Try.underlying36 info37 rfl (by decide) (by omega) u6 x6_2 (rd_L4 l0 x7_2) _ _ _ (fun _ => True) (fun _ => False) rfl rfl ?aO ?aR (fun _ _ h => h) (fun _ h => h.elim) ?aF ?aB ?aS ?aL ?_; (case aR => repeat (first | exact (Kd.C_below HR135_0.out HB.out) | (with_reducible refine Kd.C_alloc ?_ _) | (with_reducible refine Kd.C_drewN ?_ _) | (with_reducible refine Kd.C_drew ?_))); (case aB => exact (by repeat (first | (with_reducible first | exact HB.out | apply below_alloc | apply pw_below_drewN | apply below_drew1) | exact HB.out))); (case aF => exact (fun _ _ => trivial)); (case aO => exact (by (with_reducible repeat (first | apply Kd.R_alloc | apply Kd.R_drewN | apply Kd.R_drew)); exact HO_6.out)); (case aS => exact (below_size (by repeat (first | (with_reducible first | exact HB.out | apply below_alloc | apply pw_below_drewN | apply below_drew1) | exact HB.out)))); (case aL => have := LMc13.out; omega); intro v137 w14 ho hb hg hat; rw [← Ny136.out] at ho; have n0_ := Aside0.mk (Kd.R_over' (by (with_reducible repeat (first | apply Kd.R_alloc | apply Kd.R_drewN | apply Kd.R_drew)); exact HO_3.out) (Kd.R_typed (by (with_reducible repeat (first | apply Kd.R_alloc | apply Kd.R_drewN | apply Kd.R_drew)); exact HO_6.out)) (by decide) hg); have n1_ := Aside0.mk (Kd.R_over' (by (with_reducible repeat (first | apply Kd.R_alloc | apply Kd.R_drewN | apply Kd.R_drew)); exact HO_4.out) (Kd.R_typed (by (with_reducible repeat (first | apply Kd.R_alloc | apply Kd.R_drewN | apply Kd.R_drew)); exact HO_6.out)) (by decide) hg); have n2_ := Aside0.mk (hb); have n3_ := Aside0.mk (ho); clear HO_3; clear HO_4; clear HB; clear HO_6; have HO_3 := n0_; have HO_4 := n1_; have HB := n2_; have HO138 := n3_; clear n0_ n1_ n2_ n3_; clear ho hb hg hat))
                    go_roundg k2
                    case measure => have := HJ3.out; have := HK2.out; omega
                    case rel => exact ⟨(y136), (wrap64 (x7_2 + 1)), (by first | rfl | (simp; done) | (simp [*]; done)), H', ⟨by have := HJ3.out; have := HK2.out; omega⟩, ⟨by (with_reducible repeat (first | apply Kd.R_alloc | apply Kd.R_drewN | apply Kd.R_drew)); exact HO_3.out⟩, ⟨by (with_reducible repeat (first | apply Kd.R_alloc | apply Kd.R_drewN | apply Kd.R_drew)); exact HO_4.out⟩, ⟨by (with_reducible repeat (first | apply Kd.R_alloc | apply Kd.R_drewN | apply Kd.R_drew)); exact HO138.out⟩, ⟨by repeat (first | (with_reducible first | exact HB.out | apply below_alloc | apply pw_below_drewN | apply below_drew1) | exact HB.out)⟩⟩
                  · rw [if_neg c13] at H
                    exact absurd H (by simp)
                · rw [if_neg c12] at H
                  exact absurd H (by simp)
              · rw [if_neg c11] at H
                have c11b0 : decide (x7_2 < (l0.length : Int)) = false := decide_eq_false c11
                clear c11
                by_cases c15 : (t126.length : Int) > (x6_2.length : Int)
                · rw [if_pos c15] at H
                  have c15b0 : decide ((x6_2.length : Int) < (t126.length : Int)) = true := decide_eq_true c15
                  have c15b1 : decide (x6_2.length < t126.length) = true := decide_eq_true (Int.ofNat_lt.mp c15)
                  clear c15
                  obtain rfl := Option.some.inj H
                  obtain ⟨Ao16, co16, eo16⟩ := Kd.R_slice HO_3.out
                  subst eo16
                  obtain ⟨Ao17, co17, eo17⟩ := Kd.R_slice HO_6.out
                  subst eo17
                  go_wp2
                  go_ret
                  exact ⟨by first | rfl | (simp [errW_none, errW_some] <;> rfl) | (simp [*, errW_none, errW_some] <;> rfl), by repeat (first | (with_reducible first | exact HB.out | apply below_alloc | apply pw_below_drewN | apply below_drew1) | exact HB.out)⟩
                · rw [if_neg c15] at H
                  have c15b0 : decide ((x6_2.length : Int) < (t126.length : Int)) = false := decide_eq_false c15
                  have c15b1 : decide (x6_2.length < t126.length) = false := decide_eq_false (fun h => c15 (Int.ofNat_lt.mpr h))
                  clear c15
                  have H' := Aside0.mk H
                  clear H
                  obtain ⟨Ao18, co18, eo18⟩ := Kd.R_slice HO_3.out
                  subst eo18
                  obtain ⟨Ao19, co19, eo19⟩ := Kd.R_slice HO_6.out
                  subst eo19
                  go_wp2
                  go_loopg [8, 9] k2 (fun kq v8 v9 w' => ∃ (x8_3 : Int) (x9_3 : Int), v8 = .int .i64 x8_3 ∧ v9 = .int .i64 x9_3 ∧ Aside0 (beadlelaw22_CellsOnce.l1 kq t126 t127 x6_2 x8_3 x9_3 = some r) ∧ Aside0 (kq ≤ k2) ∧ Aside0 (Kd.R k33 33 w' w.heap.size (fun _ => True) (.slice Ao18 t126.length co18) t126) ∧ Aside0 (Kd.R (Kd.int .i64) 3 w' w.heap.size (fun _ => True) v131 t127) ∧ Aside0 (Kd.R k37 37 w' w.heap.size (fun _ => True) (.slice Ao19 x6_2.length co19) x6_2) ∧ Aside0 (Below w.heap.size w w'))
                  case atStart => exact ⟨(0), (0), (by first | rfl | (simp; done) | (simp [*]; done)), (by first | rfl | (simp; done) | (simp [*]; done)), H', ⟨Nat.le_refl _⟩, ⟨by (with_reducible repeat (first | apply Kd.R_alloc | apply Kd.R_drewN | apply Kd.R_drew)); exact HO_3.out⟩, ⟨by (with_reducible repeat (first | apply Kd.R_alloc | apply Kd.R_drewN | apply Kd.R_drew)); exact HO_4.out⟩, ⟨by (with_reducible repeat (first | apply Kd.R_alloc | apply Kd.R_drewN | apply Kd.R_drew)); exact HO_6.out⟩, ⟨by repeat (first | (with_reducible first | exact HB.out | apply below_alloc | apply pw_below_drewN | apply below_drew1) | exact HB.out)⟩⟩
                  case round =>
                    clear H'
                    try clear c1
                    try clear p1
                    try clear q1
                    try clear hx1
                    try clear p2
                    try clear c3
                    try clear c4
                    try clear p6
                    try clear c7
                    try clear c8
                    try clear c9
                    try clear c11
                    try clear c11b0
                    try clear c12
                    try clear c12b0
                    try clear c13
                    try clear p13
                    try clear q13
                    try clear hx13
                    try clear c15
                    try clear c15b0
                    try clear c15b1
                    try clear hx135_0
                    try clear p135
                    try clear p2
                    try clear q135
                    obtain ⟨x8_3, x9_3, rfl, rfl, HA, HK3, HO_3, HO_4, HO_6, HB⟩ := hrel
                    cases gk with
                    | zero => exact absurd HA.out (by simp [beadlelaw22_CellsOnce.l1])
                    | succ k3 =>
                      have H := HA.out
                      clear HA
                      simp only [beadlelaw22_CellsOnce.l1] at H
                      by_cases c20 : x9_3 < (t126.length : Int)
                      · rw [if_pos c20] at H
                        have c20b0 : decide (x9_3 < (t126.length : Int)) = true := decide_eq_true c20
                        clear c20
                        have H' := Aside0.mk H
                        clear H
                        go_wp2
                        go_loopg [10, 11] k3 (fun kq v10 v11 w' => ∃ (x10_4 : Bool) (x11_4 : Int), v10 = .bool x10_4 ∧ v11 = .int .i64 x11_4 ∧ Aside0 (beadlelaw22_CellsOnce.l2 kq t126 t127 x6_2 x8_3 x9_3 x10_4 x11_4 = some r) ∧ Aside0 (kq ≤ k3) ∧ Aside0 (Kd.R k33 33 w' w.heap.size (fun _ => True) (.slice Ao18 t126.length co18) t126) ∧ Aside0 (Kd.R (Kd.int .i64) 3 w' w.heap.size (fun _ => True) v131 t127) ∧ Aside0 (Kd.R k37 37 w' w.heap.size (fun _ => True) (.slice Ao19 x6_2.length co19) x6_2) ∧ Aside0 (Below w.heap.size w w'))
                        case atStart => exact ⟨(false), (0), (by first | rfl | (simp; done) | (simp [*]; done)), (by first | rfl | (simp; done) | (simp [*]; done)), H', ⟨Nat.le_refl _⟩, ⟨by (with_reducible repeat (first | apply Kd.R_alloc | apply Kd.R_drewN | apply Kd.R_drew)); exact HO_3.out⟩, ⟨by (with_reducible repeat (first | apply Kd.R_alloc | apply Kd.R_drewN | apply Kd.R_drew)); exact HO_4.out⟩, ⟨by (with_reducible repeat (first | apply Kd.R_alloc | apply Kd.R_drewN | apply Kd.R_drew)); exact HO_6.out⟩, ⟨by repeat (first | (with_reducible first | exact HB.out | apply below_alloc | apply pw_below_drewN | apply below_drew1) | exact HB.out)⟩⟩
                        case round =>
                          clear H'
                          try clear c1
                          try clear p1
                          try clear q1
                          try clear hx1
                          try clear c2
                          try clear p2
                          try clear c3
                          try clear c4
                          try clear p6
                          try clear c7
                          try clear c8
                          try clear c9
                          try clear c11
                          try clear c11b0
                          try clear c12
                          try clear c12b0
                          try clear c13
                          try clear p13
                          try clear q13
                          try clear hx13
                          try clear c15
                          try clear c15b0
                          try clear c15b1
                          try clear c20
                          try clear c20b0
                          try clear hx135_0
                          try clear p1
                          try clear p13
                          try clear p135
                          try clear p2
                          try clear p6
                          try clear q1
                          try clear q13
                          try clear q135
                          obtain ⟨x10_4, x11_4, rfl, rfl, HA, HK4, HO_3, HO_4, HO_6, HB⟩ := hrel
                          cases gk with
                          | zero => exact absurd HA.out (by simp [beadlelaw22_CellsOnce.l2])
                          | succ k4 =>
                            have H := HA.out
                            clear HA
                            simp only [beadlelaw22_CellsOnce.l2] at H
                            by_cases c21 : x11_4 < x9_3
                            · rw [if_pos c21] at H
                              have c21b0 : decide (x11_4 < x9_3) = true := decide_eq_true c21
                              clear c21
                              by_cases c22 : 0 ≤ x9_3
                              · rw [if_pos c22] at H
                                have c22b0 : decide (0 ≤ x9_3) = true := decide_eq_true c22
                                clear c22
                                by_cases c23 : x9_3 < (t126.length : Int)
                                · rw [if_pos c23] at H
                                  have c23b0 : decide (x9_3 < (t126.length : Int)) = true := decide_eq_true c23
                                  clear c23
                                  by_cases c24 : 0 ≤ x11_4
                                  · rw [if_pos c24] at H
                                    have c24b0 : decide (0 ≤ x11_4) = true := decide_eq_true c24
                                    clear c24
                                    by_cases c25 : x11_4 < (t126.length : Int)
                                    · rw [if_pos c25] at H
                                      have c25b0 : decide (x11_4 < (t126.length : Int)) = true := decide_eq_true c25
                                      clear c25
                                      by_cases c26 : x9_3 < (x6_2.length : Int)
                                      · rw [if_pos c26] at H
                                        have c26b0 : decide (x9_3 < (x6_2.length : Int)) = true := decide_eq_true c26
                                        clear c26
                                        obtain ⟨ji27, hji27⟩ : ∃ j_ : Int, (mx ((rd_T37 x6_2 x9_3).f1) 1) = j_ := ⟨_, rfl⟩
                                        replace H : (if x11_4 < (x6_2.length : Int) then (if x10_4 = true then (beadlelaw22_CellsOnce.l2 k4 t126 t127 x6_2 x8_3 x9_3 true (wrap64 (x11_4 + 1))) else (if ((rd_T33 t126 x9_3).f0) < (wrap64 (((rd_T33 t126 x11_4).f0) + ((rd_T33 t126 x11_4).f2))) then (if ((rd_T33 t126 x11_4).f0) < (wrap64 (((rd_T33 t126 x9_3).f0) + ((rd_T33 t126 x9_3).f2))) then (if ((rd_T33 t126 x9_3).f1) < (wrap64 (((rd_T33 t126 x11_4).f1) + (mn (mx ((rd_T37 x6_2 x11_4).f1) 1) 1000))) then (beadlelaw22_CellsOnce.l2 k4 t126 t127 x6_2 x8_3 x9_3 (decide (((rd_T33 t126 x11_4).f1) < (wrap64 (((rd_T33 t126 x9_3).f1) + (mn (ji27) 1000))))) (wrap64 (x11_4 + 1))) else (beadlelaw22_CellsOnce.l2 k4 t126 t127 x6_2 x8_3 x9_3 false (wrap64 (x11_4 + 1)))) else (beadlelaw22_CellsOnce.l2 k4 t126 t127 x6_2 x8_3 x9_3 false (wrap64 (x11_4 + 1)))) else (beadlelaw22_CellsOnce.l2 k4 t126 t127 x6_2 x8_3 x9_3 false (wrap64 (x11_4 + 1))))) else (none)) = some r := by first | (rw [hji27] at H; exact H) | (simp only [hji27] at H ⊢; exact H)
                                        have hji27_ : (if ((rd_T37 x6_2 x9_3).f1) < 1 then 1 else ((rd_T37 x6_2 x9_3).f1)) = ji27 := hji27
                                        obtain ⟨ji28, hji28⟩ : ∃ j_ : Int, (mn (ji27) 1000) = j_ := ⟨_, rfl⟩
                                        replace H : (if x11_4 < (x6_2.length : Int) then (if x10_4 = true then (beadlelaw22_CellsOnce.l2 k4 t126 t127 x6_2 x8_3 x9_3 true (wrap64 (x11_4 + 1))) else (if ((rd_T33 t126 x9_3).f0) < (wrap64 (((rd_T33 t126 x11_4).f0) + ((rd_T33 t126 x11_4).f2))) then (if ((rd_T33 t126 x11_4).f0) < (wrap64 (((rd_T33 t126 x9_3).f0) + ((rd_T33 t126 x9_3).f2))) then (if ((rd_T33 t126 x9_3).f1) < (wrap64 (((rd_T33 t126 x11_4).f1) + (mn (mx ((rd_T37 x6_2 x11_4).f1) 1) 1000))) then (beadlelaw22_CellsOnce.l2 k4 t126 t127 x6_2 x8_3 x9_3 (decide (((rd_T33 t126 x11_4).f1) < (wrap64 (((rd_T33 t126 x9_3).f1) + (ji28))))) (wrap64 (x11_4 + 1))) else (beadlelaw22_CellsOnce.l2 k4 t126 t127 x6_2 x8_3 x9_3 false (wrap64 (x11_4 + 1)))) else (beadlelaw22_CellsOnce.l2 k4 t126 t127 x6_2 x8_3 x9_3 false (wrap64 (x11_4 + 1)))) else (beadlelaw22_CellsOnce.l2 k4 t126 t127 x6_2 x8_3 x9_3 false (wrap64 (x11_4 + 1))))) else (none)) = some r := by first | (rw [hji28] at H; exact H) | (simp only [hji28] at H ⊢; exact H)
                                        have hji28_ : (if 1000 < (ji27) then 1000 else (ji27)) = ji28 := hji28
                                        by_cases c29 : x11_4 < (x6_2.length : Int)
                                        · rw [if_pos c29] at H
                                          have c29b0 : decide (x11_4 < (x6_2.length : Int)) = true := decide_eq_true c29
                                          clear c29
                                          obtain ⟨ji30, hji30⟩ : ∃ j_ : Int, (mx ((rd_T37 x6_2 x11_4).f1) 1) = j_ := ⟨_, rfl⟩
                                          replace H : (if x10_4 = true then (beadlelaw22_CellsOnce.l2 k4 t126 t127 x6_2 x8_3 x9_3 true (wrap64 (x11_4 + 1))) else (if ((rd_T33 t126 x9_3).f0) < (wrap64 (((rd_T33 t126 x11_4).f0) + ((rd_T33 t126 x11_4).f2))) then (if ((rd_T33 t126 x11_4).f0) < (wrap64 (((rd_T33 t126 x9_3).f0) + ((rd_T33 t126 x9_3).f2))) then (if ((rd_T33 t126 x9_3).f1) < (wrap64 (((rd_T33 t126 x11_4).f1) + (mn (ji30) 1000))) then (beadlelaw22_CellsOnce.l2 k4 t126 t127 x6_2 x8_3 x9_3 (decide (((rd_T33 t126 x11_4).f1) < (wrap64 (((rd_T33 t126 x9_3).f1) + (ji28))))) (wrap64 (x11_4 + 1))) else (beadlelaw22_CellsOnce.l2 k4 t126 t127 x6_2 x8_3 x9_3 false (wrap64 (x11_4 + 1)))) else (beadlelaw22_CellsOnce.l2 k4 t126 t127 x6_2 x8_3 x9_3 false (wrap64 (x11_4 + 1)))) else (beadlelaw22_CellsOnce.l2 k4 t126 t127 x6_2 x8_3 x9_3 false (wrap64 (x11_4 + 1))))) = some r := by first | (rw [hji30] at H; exact H) | (simp only [hji30] at H ⊢; exact H)
                                          have hji30_ : (if ((rd_T37 x6_2 x11_4).f1) < 1 then 1 else ((rd_T37 x6_2 x11_4).f1)) = ji30 := hji30
                                          obtain ⟨ji31, hji31⟩ : ∃ j_ : Int, (mn (ji30) 1000) = j_ := ⟨_, rfl⟩
                                          replace H : (if x10_4 = true then (beadlelaw22_CellsOnce.l2 k4 t126 t127 x6_2 x8_3 x9_3 true (wrap64 (x11_4 + 1))) else (if ((rd_T33 t126 x9_3).f0) < (wrap64 (((rd_T33 t126 x11_4).f0) + ((rd_T33 t126 x11_4).f2))) then (if ((rd_T33 t126 x11_4).f0) < (wrap64 (((rd_T33 t126 x9_3).f0) + ((rd_T33 t126 x9_3).f2))) then (if ((rd_T33 t126 x9_3).f1) < (wrap64 (((rd_T33 t126 x11_4).f1) + (ji31))) then (beadlelaw22_CellsOnce.l2 k4 t126 t127 x6_2 x8_3 x9_3 (decide (((rd_T33 t126 x11_4).f1) < (wrap64 (((rd_T33 t126 x9_3).f1) + (ji28))))) (wrap64 (x11_4 + 1))) else (beadlelaw22_CellsOnce.l2 k4 t126 t127 x6_2 x8_3 x9_3 false (wrap64 (x11_4 + 1)))) else (beadlelaw22_CellsOnce.l2 k4 t126 t127 x6_2 x8_3 x9_3 false (wrap64 (x11_4 + 1)))) else (beadlelaw22_CellsOnce.l2 k4 t126 t127 x6_2 x8_3 x9_3 false (wrap64 (x11_4 + 1))))) = some r := by first | (rw [hji31] at H; exact H) | (simp only [hji31] at H ⊢; exact H)
                                          have hji31_ : (if 1000 < (ji30) then 1000 else (ji30)) = ji31 := hji31
                                          have HCw := Aside0.mk H
                                          clear H
                                          try go_wp2
                                          have n0_ := Aside0.mk (Kd.R_drew HO_3.out)
                                          have n1_ := Aside0.mk (Kd.R_drew HO_4.out)
                                          have n2_ := Aside0.mk (Kd.R_drew HO_6.out)
                                          have n3_ := Aside0.mk (below_drew1 HB.out)
                                          clear HO_3
                                          clear HO_4
                                          clear HO_6
                                          clear HB
                                          have HO_3 := n0_
                                          have HO_4 := n1_
                                          have HO_6 := n2_
                                          have HB := n3_
                                          clear n0_ n1_ n2_ n3_
                                          have p139 : 0 ≤ (x9_3 : Int) := of_decide_eq_true (by first | (with_reducible assumption) | assumption)
                                          have q139 : x9_3 < (t126.length : Int) := of_decide_eq_true (by first | (with_reducible assumption) | assumption)
                                          obtain ⟨ad139, e139, hx139_0, hx139_1, hx139_2⟩ := at_T33 (Kd.R_reads' HO_3.out).2.2 x9_3 p139 q139
                                          cases e139
                                          replace p139 := eq_true p139
                                          replace q139 := eq_true q139
                                          have p140 : 0 ≤ (x11_4 : Int) := of_decide_eq_true (by first | (with_reducible assumption) | assumption)
                                          have q140 : x11_4 < (t126.length : Int) := of_decide_eq_true (by first | (with_reducible assumption) | assumption)
                                          obtain ⟨ad140, e140, hx140_0, hx140_1, hx140_2⟩ := at_T33 (Kd.R_reads' HO_3.out).2.2 x11_4 p140 q140
                                          obtain rfl : ad139 = ad140 := (by injection e140)
                                          replace p140 := eq_true p140
                                          replace q140 := eq_true q140
                                          refine start_ (n := 12) (S := fun w' => w'.cell? (ad139.add ((x9_3).toNat * 3)) = some (.int .i64 ((rd_T33 t126 x9_3).f0)) ∧ w'.cell? ⟨(ad139.add ((x9_3).toNat * 3)).block, (ad139.add ((x9_3).toNat * 3)).off + 1, none⟩ = some (.int .i64 ((rd_T33 t126 x9_3).f1)) ∧ w'.cell? ⟨(ad139.add ((x9_3).toNat * 3)).block, (ad139.add ((x9_3).toNat * 3)).off + 2, none⟩ = some (.int .i64 ((rd_T33 t126 x9_3).f2)) ∧ w'.cell? (ad139.add ((x11_4).toNat * 3)) = some (.int .i64 ((rd_T33 t126 x11_4).f0)) ∧ w'.cell? ⟨(ad139.add ((x11_4).toNat * 3)).block, (ad139.add ((x11_4).toNat * 3)).off + 1, none⟩ = some (.int .i64 ((rd_T33 t126 x11_4).f1)) ∧ w'.cell? ⟨(ad139.add ((x11_4).toNat * 3)).block, (ad139.add ((x11_4).toNat * 3)).off + 2, none⟩ = some (.int .i64 ((rd_T33 t126 x11_4).f2))) (ds := []) #[false, false, false, false, false, false, false, false, false, false, false, false] (by kernel_rfl) rfl rfl ⟨hx139_0, hx139_1, hx139_2, hx140_0, hx140_1, hx140_2⟩ (fun hHeld => ?_); refine with_tabW beadlelaw22_CellsOnce.tab21 beadlelaw22_CellsOnce.bits21 (fun HT_ HW_ => ?_)
                                          generalize wr.drew = w33 at HO_3 HO_4 HO_6 HB hx139_0 hx139_1 hx139_2 hx140_0 hx140_1 hx140_2 hHeld ⊢
                                          refine pure_ (i := 0) (N := some 60) (v := ?_) (a' := ?_) #[true, false, false, false, false, false, false, false, false, false, false, false] rfl rfl (any_of HT_.out (by kernel_rfl)) (fun _ _ _ h => h) (Or.inl ⟨by rfl, ?_⟩) ?_ ?_
                                          rotate_left
                                          · intro w'
                                            go_simp
                                            with_reducible rfl
                                          rotate_left
                                          · simp only [Act.put, List.setIfInBounds_toArray, List.set_cons_zero, List.set_cons_succ, i64_w, i32_w]
                                            rfl
                                          refine pure_ (i := 1) (N := some 61) (v := ?_) (a' := ?_) #[true, true, false, false, false, false, false, false, false, false, false, false] rfl rfl (any_of HT_.out (by kernel_rfl)) (fun _ _ _ h => h) (Or.inl ⟨by rfl, ?_⟩) ?_ ?_
                                          rotate_left
                                          · intro w'
                                            go_simp
                                            with_reducible rfl
                                          rotate_left
                                          · simp only [Act.put, List.setIfInBounds_toArray, List.set_cons_zero, List.set_cons_succ, i64_w, i32_w]
                                            rfl
                                          refine pure_ (i := 2) (N := some 62) (v := ?_) (a' := ?_) #[true, true, true, false, false, false, false, false, false, false, false, false] rfl rfl (any_of HT_.out (by kernel_rfl)) (fun _ _ _ h => h) (Or.inl ⟨by rfl, ?_⟩) ?_ ?_
                                          rotate_left
                                          · intro w'
                                            go_simp
                                            with_reducible rfl
                                          rotate_left
                                          · simp only [Act.put, List.setIfInBounds_toArray, List.set_cons_zero, List.set_cons_succ, i64_w, i32_w]
                                            rfl
                                          refine pure_ (i := 4) (N := some 64) (v := ?_) (a' := ?_) #[true, true, true, false, true, false, false, false, false, false, false, false] rfl rfl (any_of HT_.out (by kernel_rfl)) (fun _ _ _ h => h) (Or.inl ⟨by rfl, ?_⟩) ?_ ?_
                                          rotate_left
                                          · intro w'
                                            go_simp
                                            with_reducible rfl
                                          rotate_left
                                          · simp only [Act.put, List.setIfInBounds_toArray, List.set_cons_zero, List.set_cons_succ, i64_w, i32_w]
                                            rfl
                                          refine pure_ (i := 5) (N := some 65) (v := ?_) (a' := ?_) #[true, true, true, false, true, true, false, false, false, false, false, false] rfl rfl (any_of HT_.out (by kernel_rfl)) (fun _ _ _ h => h) (Or.inl ⟨by rfl, ?_⟩) ?_ ?_
                                          rotate_left
                                          · intro w'
                                            go_simp
                                            with_reducible rfl
                                          rotate_left
                                          · simp only [Act.put, List.setIfInBounds_toArray, List.set_cons_zero, List.set_cons_succ, i64_w, i32_w]
                                            rfl
                                          refine pure_ (i := 6) (N := some 66) (v := ?_) (a' := ?_) #[true, true, true, false, true, true, true, false, false, false, false, false] rfl rfl (any_of HT_.out (by kernel_rfl)) (fun _ _ _ h => h) (Or.inl ⟨by rfl, ?_⟩) ?_ ?_
                                          rotate_left
                                          · intro w'
                                            go_simp
                                            with_reducible rfl
                                          rotate_left
                                          · simp only [Act.put, List.setIfInBounds_toArray, List.set_cons_zero, List.set_cons_succ, i64_w, i32_w]
                                            rfl
                                          refine take_ (i := 3) (N := some 63) (v := ?_) (a' := ?_) #[true, true, true, true, true, true, true, false, false, false, false, false] rfl rfl (take_ofW HT_.out HW_.out (by kernel_rfl)) (fun _ _ _ h => h) (Or.inl ⟨by rfl, ?_⟩) hHeld ?_ ?_
                                          rotate_left
                                          · rintro w' ⟨s0, s1, s2, s3, s4, s5⟩
                                            go_simp
                                            with_reducible rfl
                                          rotate_left
                                          · simp only [Act.put, List.setIfInBounds_toArray, List.set_cons_zero, List.set_cons_succ, i64_w, i32_w]
                                            rfl
                                          refine take_ (i := 7) (N := some 67) (v := ?_) (a' := ?_) #[true, true, true, true, true, true, true, true, false, false, false, false] rfl rfl (take_ofW HT_.out HW_.out (by kernel_rfl)) (fun _ _ _ h => h) (Or.inl ⟨by rfl, ?_⟩) hHeld ?_ ?_
                                          rotate_left
                                          · rintro w' ⟨s0, s1, s2, s3, s4, s5⟩
                                            go_simp
                                            with_reducible rfl
                                          rotate_left
                                          · simp only [Act.put, List.setIfInBounds_toArray, List.set_cons_zero, List.set_cons_succ, i64_w, i32_w]
                                            rfl
                                          refine join_ (σ := Nat × Nat) 2 #[true, true, true, true, true, true, true, true, true, true, false, false] (fun s_ => [(12, .pointer (some ⟨s_.1, 0, none⟩)), (13, .pointer (some ⟨s_.2, 0, none⟩))]) (fun s_ w' => (w'.cell? (ad139.add ((x9_3).toNat * 3)) = some (.int .i64 ((rd_T33 t126 x9_3).f0)) ∧ w'.cell? ⟨(ad139.add ((x9_3).toNat * 3)).block, (ad139.add ((x9_3).toNat * 3)).off + 1, none⟩ = some (.int .i64 ((rd_T33 t126 x9_3).f1)) ∧ w'.cell? ⟨(ad139.add ((x9_3).toNat * 3)).block, (ad139.add ((x9_3).toNat * 3)).off + 2, none⟩ = some (.int .i64 ((rd_T33 t126 x9_3).f2)) ∧ w'.cell? (ad139.add ((x11_4).toNat * 3)) = some (.int .i64 ((rd_T33 t126 x11_4).f0)) ∧ w'.cell? ⟨(ad139.add ((x11_4).toNat * 3)).block, (ad139.add ((x11_4).toNat * 3)).off + 1, none⟩ = some (.int .i64 ((rd_T33 t126 x11_4).f1)) ∧ w'.cell? ⟨(ad139.add ((x11_4).toNat * 3)).block, (ad139.add ((x11_4).toNat * 3)).off + 2, none⟩ = some (.int .i64 ((rd_T33 t126 x11_4).f2))) ∧ (Kd.R k33 33 w' w.heap.size (fun k_ => k_ ≠ s_.1 ∧ k_ ≠ s_.2) (.slice (some ad139) t126.length co18) t126) ∧ (Kd.R (Kd.int .i64) 3 w' w.heap.size (fun _ => True) v131 t127) ∧ (Kd.R k37 37 w' w.heap.size (fun _ => True) (.slice Ao19 x6_2.length co19) x6_2) ∧ (w'.heap[s_.1]? = some (.cells #[.int .i64 0, .int .i64 0, .int .i64 0] 33 (0, 0))) ∧ (w'.heap[s_.2]? = some (.cells #[.int .i64 0, .int .i64 0, .int .i64 0] 33 (0, 0))) ∧ (w.heap.size ≤ s_.1) ∧ (w.heap.size ≤ s_.1) ∧ (s_.2 ≠ s_.1) ∧ (s_.1 ≠ s_.2) ∧ (w.heap.size ≤ s_.2) ∧ (w.heap.size ≤ s_.2) ∧ (Below w.heap.size w w')) ?_ ?_
                                          rotate_left
                                          · intro hCont
                                            refine two_ (i := 8) (j := 9) (Ni := some 12) (Nj := some 13) #[true, true, true, true, true, true, true, true, true, false, false, false] #[true, true, true, true, true, true, true, true, false, true, false, false] rfl rfl rfl rfl (two_of HT_.out (by kernel_rfl)) (by decide) (by decide) (fun K hK => ?_) (fun K hK => ?_)
                                            · skip
                                              refine box_step ?hg (N := 12) ?hd (cs := #[.int .i64 0, .int .i64 0, .int .i64 0]) (t := 33) ?hr ?_; (case hd => rfl); (case hg => rfl); (case hr => first | (go_simp; done) | (go_simp; rfl))
                                              intro gb141 hg w34 hbox hb
                                              have HS0_ := (hb.cell (World.block_lt_of_cell? _ _ (hHeld.1))).trans (hHeld.1)
                                              have HS1_ := (hb.cell (World.block_lt_of_cell? _ _ (hHeld.2.1))).trans (hHeld.2.1)
                                              have HS2_ := (hb.cell (World.block_lt_of_cell? _ _ (hHeld.2.2.1))).trans (hHeld.2.2.1)
                                              have HS3_ := (hb.cell (World.block_lt_of_cell? _ _ (hHeld.2.2.2.1))).trans (hHeld.2.2.2.1)
                                              have HS4_ := (hb.cell (World.block_lt_of_cell? _ _ (hHeld.2.2.2.2.1))).trans (hHeld.2.2.2.2.1)
                                              have HS5_ := (hb.cell (World.block_lt_of_cell? _ _ (hHeld.2.2.2.2.2))).trans (hHeld.2.2.2.2.2)
                                              have n0_ := Aside0.mk (Kd.R_below (Kd.R_elderB (by (with_reducible repeat (first | apply Kd.R_alloc | apply Kd.R_drewN | apply Kd.R_drew)); exact HO_3.out) gb141 (Nat.le_of_eq hg.symm)) hb)
                                              have n1_ := Aside0.mk (Kd.R_below (by (with_reducible repeat (first | apply Kd.R_alloc | apply Kd.R_drewN | apply Kd.R_drew)); exact HO_4.out) hb)
                                              have n2_ := Aside0.mk (Kd.R_below (by (with_reducible repeat (first | apply Kd.R_alloc | apply Kd.R_drewN | apply Kd.R_drew)); exact HO_6.out) hb)
                                              have n3_ := Aside0.mk (below_step (by repeat (first | (with_reducible first | exact HB.out | apply below_alloc | apply pw_below_drewN | apply below_drew1) | exact HB.out)) hb)
                                              have n4_ := Aside0.mk (hbox)
                                              have n5_ := Aside0.mk ((by rw [hg]; exact (below_size (by repeat (first | (with_reducible first | exact HB.out | apply below_alloc | apply pw_below_drewN | apply below_drew1) | exact HB.out))) : w.heap.size ≤ gb141))
                                              have n6_ := Aside0.mk ((by rw [hg]; exact (below_size (by repeat (first | (with_reducible first | exact HB.out | apply below_alloc | apply pw_below_drewN | apply below_drew1) | exact HB.out))) : w.heap.size ≤ gb141))
                                              clear HO_3
                                              clear HO_4
                                              clear HO_6
                                              clear HB
                                              have HO_3 := n0_
                                              have HO_4 := n1_
                                              have HO_6 := n2_
                                              have HB := n3_
                                              have BK141 := n4_
                                              have GW141 := n5_
                                              have GE141 := n6_
                                              clear n0_ n1_ n2_ n3_ n4_ n5_ n6_
                                              clear hb hbox hg
                                              refine hK.out _ _ ⟨HS0_, HS1_, HS2_, HS3_, HS4_, HS5_⟩ (fun hHeld => ?_)
                                              clear hK K
                                              refine norm_ (a' := ?_) ?_ ?_
                                              rotate_left
                                              · show Act.put _ (some 12) _ = _
                                                simp only [Act.put, List.setIfInBounds_toArray, List.set_cons_zero, List.set_cons_succ, i64_w, i32_w]
                                                rfl
                                              refine one_ (i := 9) (N := some 13) #[true, true, true, true, true, true, true, true, true, true, false, false] rfl rfl (one_of HT_.out (by kernel_rfl)) (by decide) (fun K hK => ?_)
                                              refine box_step ?hg (N := 13) ?hd (cs := #[.int .i64 0, .int .i64 0, .int .i64 0]) (t := 33) ?hr ?_; (case hd => rfl); (case hg => rfl); (case hr => first | (go_simp; done) | (go_simp; rfl))
                                              intro gb142 hg w35 hbox hb
                                              have HS0_ := (hb.cell (World.block_lt_of_cell? _ _ (hHeld.1))).trans (hHeld.1)
                                              have HS1_ := (hb.cell (World.block_lt_of_cell? _ _ (hHeld.2.1))).trans (hHeld.2.1)
                                              have HS2_ := (hb.cell (World.block_lt_of_cell? _ _ (hHeld.2.2.1))).trans (hHeld.2.2.1)
                                              have HS3_ := (hb.cell (World.block_lt_of_cell? _ _ (hHeld.2.2.2.1))).trans (hHeld.2.2.2.1)
                                              have HS4_ := (hb.cell (World.block_lt_of_cell? _ _ (hHeld.2.2.2.2.1))).trans (hHeld.2.2.2.2.1)
                                              have HS5_ := (hb.cell (World.block_lt_of_cell? _ _ (hHeld.2.2.2.2.2))).trans (hHeld.2.2.2.2.2)
                                              have n0_ := Aside0.mk (Kd.R_below (Kd.R_elderB (by (with_reducible repeat (first | apply Kd.R_alloc | apply Kd.R_drewN | apply Kd.R_drew)); exact HO_3.out) gb142 (Nat.le_of_eq hg.symm)) hb)
                                              have n1_ := Aside0.mk (Kd.R_below (by (with_reducible repeat (first | apply Kd.R_alloc | apply Kd.R_drewN | apply Kd.R_drew)); exact HO_4.out) hb)
                                              have n2_ := Aside0.mk (Kd.R_below (by (with_reducible repeat (first | apply Kd.R_alloc | apply Kd.R_drewN | apply Kd.R_drew)); exact HO_6.out) hb)
                                              have n3_ := Aside0.mk (blk_below (g := gb141) (o := .cells #[.int .i64 0, .int .i64 0, .int .i64 0] 33 (0, 0)) (by (with_reducible repeat (first | refine blk_drewN ?_ _ | refine blk_drew ?_ | refine blk_alloc ?_ _)); exact BK141.out) hb)
                                              have n4_ := Aside0.mk (below_step (by repeat (first | (with_reducible first | exact HB.out | apply below_alloc | apply pw_below_drewN | apply below_drew1 | refine below_set ?_ GE141.out) | exact HB.out)) hb)
                                              have n5_ := Aside0.mk (hbox)
                                              have n6_ := Aside0.mk ((by rw [hg]; exact (below_size (by repeat (first | (with_reducible first | exact HB.out | apply below_alloc | apply pw_below_drewN | apply below_drew1 | refine below_set ?_ GE141.out) | exact HB.out))) : w.heap.size ≤ gb142))
                                              have n7_ := Aside0.mk ((by rw [hg]; exact (below_size (by repeat (first | (with_reducible first | exact HB.out | apply below_alloc | apply pw_below_drewN | apply below_drew1 | refine below_set ?_ GE141.out) | exact HB.out))) : w.heap.size ≤ gb142))
                                              have n8_ := Aside0.mk ((by rw [hg]; exact Nat.ne_of_lt (blk_lt (g := gb141) (o := .cells #[.int .i64 0, .int .i64 0, .int .i64 0] 33 (0, 0)) (by (with_reducible repeat (first | refine blk_drewN ?_ _ | refine blk_drew ?_ | refine blk_alloc ?_ _)); exact BK141.out)) : gb141 ≠ gb142))
                                              have n9_ := Aside0.mk ((by rw [hg]; exact Nat.ne_of_gt (blk_lt (g := gb141) (o := .cells #[.int .i64 0, .int .i64 0, .int .i64 0] 33 (0, 0)) (by (with_reducible repeat (first | refine blk_drewN ?_ _ | refine blk_drew ?_ | refine blk_alloc ?_ _)); exact BK141.out)) : gb142 ≠ gb141))
                                              clear HO_3
                                              clear HO_4
                                              clear HO_6
                                              clear BK141
                                              clear HB
                                              have HO_3 := n0_
                                              have HO_4 := n1_
                                              have HO_6 := n2_
                                              have BK141 := n3_
                                              have HB := n4_
                                              have BK142 := n5_
                                              have GW142 := n6_
                                              have GE142 := n7_
                                              have NB141_142 := n8_
                                              have NB142_141 := n9_
                                              clear n0_ n1_ n2_ n3_ n4_ n5_ n6_ n7_ n8_ n9_
                                              clear hb hbox hg
                                              refine hK.out _ _ ⟨HS0_, HS1_, HS2_, HS3_, HS4_, HS5_⟩ (fun hHeld => ?_)
                                              clear hK K
                                              refine norm_ (a' := ?_) ?_ ?_
                                              rotate_left
                                              · show Act.put _ (some 13) _ = _
                                                simp only [Act.put, List.setIfInBounds_toArray, List.set_cons_zero, List.set_cons_succ, i64_w, i32_w]
                                                rfl
                                              exact norm_ (by simp only [putAll, Act.put, List.setIfInBounds_toArray, List.set_cons_zero, List.set_cons_succ]) (hCont (gb141, gb142) _ ⟨hHeld, (by (with_reducible repeat (first | apply Kd.R_alloc | apply Kd.R_drewN | apply Kd.R_drew)); exact Kd.R_mono HO_3.out (fun _ hk => ⟨hk.1.2, hk.2⟩)), (by (with_reducible repeat (first | apply Kd.R_alloc | apply Kd.R_drewN | apply Kd.R_drew)); exact HO_4.out), (by (with_reducible repeat (first | apply Kd.R_alloc | apply Kd.R_drewN | apply Kd.R_drew)); exact HO_6.out), (by (with_reducible repeat (first | refine blk_drewN ?_ _ | refine blk_drew ?_ | refine blk_alloc ?_ _)); exact BK141.out), (by (with_reducible repeat (first | refine blk_drewN ?_ _ | refine blk_drew ?_ | refine blk_alloc ?_ _)); exact BK142.out), GW141.out, GE141.out, NB142_141.out, NB141_142.out, GW142.out, GE142.out, (by repeat (first | (with_reducible first | exact HB.out | apply below_alloc | apply pw_below_drewN | apply below_drew1 | refine below_set ?_ GE141.out | refine below_set ?_ GE142.out) | exact HB.out))⟩)
                                            · skip
                                              refine box_step ?hg (N := 13) ?hd (cs := #[.int .i64 0, .int .i64 0, .int .i64 0]) (t := 33) ?hr ?_; (case hd => rfl); (case hg => rfl); (case hr => first | (go_simp; done) | (go_simp; rfl))
                                              intro gb142 hg w34 hbox hb
                                              have HS0_ := (hb.cell (World.block_lt_of_cell? _ _ (hHeld.1))).trans (hHeld.1)
                                              have HS1_ := (hb.cell (World.block_lt_of_cell? _ _ (hHeld.2.1))).trans (hHeld.2.1)
                                              have HS2_ := (hb.cell (World.block_lt_of_cell? _ _ (hHeld.2.2.1))).trans (hHeld.2.2.1)
                                              have HS3_ := (hb.cell (World.block_lt_of_cell? _ _ (hHeld.2.2.2.1))).trans (hHeld.2.2.2.1)
                                              have HS4_ := (hb.cell (World.block_lt_of_cell? _ _ (hHeld.2.2.2.2.1))).trans (hHeld.2.2.2.2.1)
                                              have HS5_ := (hb.cell (World.block_lt_of_cell? _ _ (hHeld.2.2.2.2.2))).trans (hHeld.2.2.2.2.2)
                                              have n0_ := Aside0.mk (Kd.R_below (Kd.R_elderB (by (with_reducible repeat (first | apply Kd.R_alloc | apply Kd.R_drewN | apply Kd.R_drew)); exact HO_3.out) gb142 (Nat.le_of_eq hg.symm)) hb)
                                              have n1_ := Aside0.mk (Kd.R_below (by (with_reducible repeat (first | apply Kd.R_alloc | apply Kd.R_drewN | apply Kd.R_drew)); exact HO_4.out) hb)
                                              have n2_ := Aside0.mk (Kd.R_below (by (with_reducible repeat (first | apply Kd.R_alloc | apply Kd.R_drewN | apply Kd.R_drew)); exact HO_6.out) hb)
                                              have n3_ := Aside0.mk (below_step (by repeat (first | (with_reducible first | exact HB.out | apply below_alloc | apply pw_below_drewN | apply below_drew1) | exact HB.out)) hb)
                                              have n4_ := Aside0.mk (hbox)
                                              have n5_ := Aside0.mk ((by rw [hg]; exact (below_size (by repeat (first | (with_reducible first | exact HB.out | apply below_alloc | apply pw_below_drewN | apply below_drew1) | exact HB.out))) : w.heap.size ≤ gb142))
                                              have n6_ := Aside0.mk ((by rw [hg]; exact (below_size (by repeat (first | (with_reducible first | exact HB.out | apply below_alloc | apply pw_below_drewN | apply below_drew1) | exact HB.out))) : w.heap.size ≤ gb142))
                                              clear HO_3
                                              clear HO_4
                                              clear HO_6
                                              clear HB
                                              have HO_3 := n0_
                                              have HO_4 := n1_
                                              have HO_6 := n2_
                                              have HB := n3_
                                              have BK142 := n4_
                                              have GW142 := n5_
                                              have GE142 := n6_
                                              clear n0_ n1_ n2_ n3_ n4_ n5_ n6_
                                              clear hb hbox hg
                                              refine hK.out _ _ ⟨HS0_, HS1_, HS2_, HS3_, HS4_, HS5_⟩ (fun hHeld => ?_)
                                              clear hK K
                                              refine norm_ (a' := ?_) ?_ ?_
                                              rotate_left
                                              · show Act.put _ (some 13) _ = _
                                                simp only [Act.put, List.setIfInBounds_toArray, List.set_cons_zero, List.set_cons_succ, i64_w, i32_w]
                                                rfl
                                              refine one_ (i := 8) (N := some 12) #[true, true, true, true, true, true, true, true, true, true, false, false] rfl rfl (one_of HT_.out (by kernel_rfl)) (by decide) (fun K hK => ?_)
                                              refine box_step ?hg (N := 12) ?hd (cs := #[.int .i64 0, .int .i64 0, .int .i64 0]) (t := 33) ?hr ?_; (case hd => rfl); (case hg => rfl); (case hr => first | (go_simp; done) | (go_simp; rfl))
                                              intro gb141 hg w35 hbox hb
                                              have HS0_ := (hb.cell (World.block_lt_of_cell? _ _ (hHeld.1))).trans (hHeld.1)
                                              have HS1_ := (hb.cell (World.block_lt_of_cell? _ _ (hHeld.2.1))).trans (hHeld.2.1)
                                              have HS2_ := (hb.cell (World.block_lt_of_cell? _ _ (hHeld.2.2.1))).trans (hHeld.2.2.1)
                                              have HS3_ := (hb.cell (World.block_lt_of_cell? _ _ (hHeld.2.2.2.1))).trans (hHeld.2.2.2.1)
                                              have HS4_ := (hb.cell (World.block_lt_of_cell? _ _ (hHeld.2.2.2.2.1))).trans (hHeld.2.2.2.2.1)
                                              have HS5_ := (hb.cell (World.block_lt_of_cell? _ _ (hHeld.2.2.2.2.2))).trans (hHeld.2.2.2.2.2)
                                              have n0_ := Aside0.mk (Kd.R_below (Kd.R_elderB (by (with_reducible repeat (first | apply Kd.R_alloc | apply Kd.R_drewN | apply Kd.R_drew)); exact HO_3.out) gb141 (Nat.le_of_eq hg.symm)) hb)
                                              have n1_ := Aside0.mk (Kd.R_below (by (with_reducible repeat (first | apply Kd.R_alloc | apply Kd.R_drewN | apply Kd.R_drew)); exact HO_4.out) hb)
                                              have n2_ := Aside0.mk (Kd.R_below (by (with_reducible repeat (first | apply Kd.R_alloc | apply Kd.R_drewN | apply Kd.R_drew)); exact HO_6.out) hb)
                                              have n3_ := Aside0.mk (blk_below (g := gb142) (o := .cells #[.int .i64 0, .int .i64 0, .int .i64 0] 33 (0, 0)) (by (with_reducible repeat (first | refine blk_drewN ?_ _ | refine blk_drew ?_ | refine blk_alloc ?_ _)); exact BK142.out) hb)
                                              have n4_ := Aside0.mk (below_step (by repeat (first | (with_reducible first | exact HB.out | apply below_alloc | apply pw_below_drewN | apply below_drew1 | refine below_set ?_ GE142.out) | exact HB.out)) hb)
                                              have n5_ := Aside0.mk (hbox)
                                              have n6_ := Aside0.mk ((by rw [hg]; exact (below_size (by repeat (first | (with_reducible first | exact HB.out | apply below_alloc | apply pw_below_drewN | apply below_drew1 | refine below_set ?_ GE142.out) | exact HB.out))) : w.heap.size ≤ gb141))
                                              have n7_ := Aside0.mk ((by rw [hg]; exact (below_size (by repeat (first | (with_reducible first | exact HB.out | apply below_alloc | apply pw_below_drewN | apply below_drew1 | refine below_set ?_ GE142.out) | exact HB.out))) : w.heap.size ≤ gb141))
                                              have n8_ := Aside0.mk ((by rw [hg]; exact Nat.ne_of_lt (blk_lt (g := gb142) (o := .cells #[.int .i64 0, .int .i64 0, .int .i64 0] 33 (0, 0)) (by (with_reducible repeat (first | refine blk_drewN ?_ _ | refine blk_drew ?_ | refine blk_alloc ?_ _)); exact BK142.out)) : gb142 ≠ gb141))
                                              have n9_ := Aside0.mk ((by rw [hg]; exact Nat.ne_of_gt (blk_lt (g := gb142) (o := .cells #[.int .i64 0, .int .i64 0, .int .i64 0] 33 (0, 0)) (by (with_reducible repeat (first | refine blk_drewN ?_ _ | refine blk_drew ?_ | refine blk_alloc ?_ _)); exact BK142.out)) : gb141 ≠ gb142))
                                              clear HO_3
                                              clear HO_4
                                              clear HO_6
                                              clear BK142
                                              clear HB
                                              have HO_3 := n0_
                                              have HO_4 := n1_
                                              have HO_6 := n2_
                                              have BK142 := n3_
                                              have HB := n4_
                                              have BK141 := n5_
                                              have GW141 := n6_
                                              have GE141 := n7_
                                              have NB142_141 := n8_
                                              have NB141_142 := n9_
                                              clear n0_ n1_ n2_ n3_ n4_ n5_ n6_ n7_ n8_ n9_
                                              clear hb hbox hg
                                              refine hK.out _ _ ⟨HS0_, HS1_, HS2_, HS3_, HS4_, HS5_⟩ (fun hHeld => ?_)
                                              clear hK K
                                              refine norm_ (a' := ?_) ?_ ?_
                                              rotate_left
                                              · show Act.put _ (some 12) _ = _
                                                simp only [Act.put, List.setIfInBounds_toArray, List.set_cons_zero, List.set_cons_succ, i64_w, i32_w]
                                                rfl
                                              exact norm_ (by simp only [putAll, Act.put, List.setIfInBounds_toArray, List.set_cons_zero, List.set_cons_succ]) (hCont (gb141, gb142) _ ⟨hHeld, (by (with_reducible repeat (first | apply Kd.R_alloc | apply Kd.R_drewN | apply Kd.R_drew)); exact Kd.R_mono HO_3.out (fun _ hk => ⟨hk.2, hk.1.2⟩)), (by (with_reducible repeat (first | apply Kd.R_alloc | apply Kd.R_drewN | apply Kd.R_drew)); exact HO_4.out), (by (with_reducible repeat (first | apply Kd.R_alloc | apply Kd.R_drewN | apply Kd.R_drew)); exact HO_6.out), (by (with_reducible repeat (first | refine blk_drewN ?_ _ | refine blk_drew ?_ | refine blk_alloc ?_ _)); exact BK141.out), (by (with_reducible repeat (first | refine blk_drewN ?_ _ | refine blk_drew ?_ | refine blk_alloc ?_ _)); exact BK142.out), GW141.out, GE141.out, NB142_141.out, NB141_142.out, GW142.out, GE142.out, (by repeat (first | (with_reducible first | exact HB.out | apply below_alloc | apply pw_below_drewN | apply below_drew1 | refine below_set ?_ GE142.out | refine below_set ?_ GE141.out) | exact HB.out))⟩)
                                          rintro ⟨gb141, gb142⟩ w36 ⟨hS_, h0_, h1_, h2_, h3_, h4_, h5_, h6_, h7_, h8_, h9_, h10_, h11_⟩
                                          have n0_ : Aside0 (Kd.R k33 33 w36 w.heap.size (fun k_ => k_ ≠ gb141 ∧ k_ ≠ gb142) (.slice (some ad139) t126.length co18) t126) := ⟨h0_⟩
                                          have n1_ : Aside0 (Kd.R (Kd.int .i64) 3 w36 w.heap.size (fun _ => True) v131 t127) := ⟨h1_⟩
                                          have n2_ : Aside0 (Kd.R k37 37 w36 w.heap.size (fun _ => True) (.slice Ao19 x6_2.length co19) x6_2) := ⟨h2_⟩
                                          have n3_ : Aside0 (w36.heap[gb141]? = some (.cells #[.int .i64 0, .int .i64 0, .int .i64 0] 33 (0, 0))) := ⟨h3_⟩
                                          have n4_ : Aside0 (w36.heap[gb142]? = some (.cells #[.int .i64 0, .int .i64 0, .int .i64 0] 33 (0, 0))) := ⟨h4_⟩
                                          have n5_ : Aside0 (w.heap.size ≤ gb141) := ⟨h5_⟩
                                          have n6_ : Aside0 (w.heap.size ≤ gb141) := ⟨h6_⟩
                                          have n7_ : Aside0 (gb142 ≠ gb141) := ⟨h7_⟩
                                          have n8_ : Aside0 (gb141 ≠ gb142) := ⟨h8_⟩
                                          have n9_ : Aside0 (w.heap.size ≤ gb142) := ⟨h9_⟩
                                          have n10_ : Aside0 (w.heap.size ≤ gb142) := ⟨h10_⟩
                                          have n11_ : Aside0 (Below w.heap.size w w36) := ⟨h11_⟩
                                          clear HO_3
                                          clear HO_4
                                          clear HO_6
                                          clear HB
                                          clear h0_ h1_ h2_ h3_ h4_ h5_ h6_ h7_ h8_ h9_ h10_ h11_
                                          have HO_3 := n0_
                                          have HO_4 := n1_
                                          have HO_6 := n2_
                                          have BK141 := n3_
                                          have BK142 := n4_
                                          have GW141 := n5_
                                          have GE141 := n6_
                                          have NB142_141 := n7_
                                          have NB141_142 := n8_
                                          have GW142 := n9_
                                          have GE142 := n10_
                                          have HB := n11_
                                          clear n0_ n1_ n2_ n3_ n4_ n5_ n6_ n7_ n8_ n9_ n10_ n11_
                                          have hHeld : w36.cell? (ad139.add ((x9_3).toNat * 3)) = some (.int .i64 ((rd_T33 t126 x9_3).f0)) ∧ w36.cell? ⟨(ad139.add ((x9_3).toNat * 3)).block, (ad139.add ((x9_3).toNat * 3)).off + 1, none⟩ = some (.int .i64 ((rd_T33 t126 x9_3).f1)) ∧ w36.cell? ⟨(ad139.add ((x9_3).toNat * 3)).block, (ad139.add ((x9_3).toNat * 3)).off + 2, none⟩ = some (.int .i64 ((rd_T33 t126 x9_3).f2)) ∧ w36.cell? (ad139.add ((x11_4).toNat * 3)) = some (.int .i64 ((rd_T33 t126 x11_4).f0)) ∧ w36.cell? ⟨(ad139.add ((x11_4).toNat * 3)).block, (ad139.add ((x11_4).toNat * 3)).off + 1, none⟩ = some (.int .i64 ((rd_T33 t126 x11_4).f1)) ∧ w36.cell? ⟨(ad139.add ((x11_4).toNat * 3)).block, (ad139.add ((x11_4).toNat * 3)).off + 2, none⟩ = some (.int .i64 ((rd_T33 t126 x11_4).f2)) := hS_
                                          refine norm_ (a' := ?_) ?_ ?_
                                          rotate_left
                                          · simp only [putAll, Act.put, List.setIfInBounds_toArray, List.set_cons_zero, List.set_cons_succ]
                                            rfl
                                          refine one_ (i := 10) (N := none) #[true, true, true, true, true, true, true, true, true, true, true, false] rfl rfl (one_of HT_.out (by kernel_rfl)) (by decide) (fun K hK => ?_)
                                          have hs37 : w36.cell? ⟨gb141, 0, none⟩ = some (.int .i64 0) := (blk_cell BK141.out 0).trans rfl
                                          have hfs37 := blk_frozen BK141.out 0
                                          have hns37_1 := NB142_141.out
                                          have hms37_1 := NB141_142.out
                                          have hs38 : w36.cell? ⟨gb141, 1, none⟩ = some (.int .i64 0) := (blk_cell BK141.out 1).trans rfl
                                          have hfs38 := blk_frozen BK141.out 1
                                          have hns38_1 := NB142_141.out
                                          have hms38_1 := NB141_142.out
                                          have hs39 : w36.cell? ⟨gb141, 2, none⟩ = some (.int .i64 0) := (blk_cell BK141.out 2).trans rfl
                                          have hfs39 := blk_frozen BK141.out 2
                                          have hns39_1 := NB142_141.out
                                          have hms39_1 := NB141_142.out
                                          refine skip_ (w1 := ?_) (by rfl) rfl ?_ ?_
                                          rotate_left
                                          · go_simp
                                            rfl
                                          refine hK.out _ _ ⟨((cell_far (p := ⟨gb141, _, none⟩) (by first | exact Kd.own_blk (Kd.R_away HO_3.out (fun _ hk => hk.1)) | (rw [add_block]; exact Kd.own_blk (Kd.R_away HO_3.out (fun _ hk => hk.1))) | (show (Addr.add _ _).block ≠ _; rw [add_block]; exact Kd.own_blk (Kd.R_away HO_3.out (fun _ hk => hk.1))) | (dsimp only; exact Kd.own_blk (Kd.R_away HO_3.out (fun _ hk => hk.1)))) _).trans (((cell_far (p := ⟨gb141, _, none⟩) (by first | exact Kd.own_blk (Kd.R_away HO_3.out (fun _ hk => hk.1)) | (rw [add_block]; exact Kd.own_blk (Kd.R_away HO_3.out (fun _ hk => hk.1))) | (show (Addr.add _ _).block ≠ _; rw [add_block]; exact Kd.own_blk (Kd.R_away HO_3.out (fun _ hk => hk.1))) | (dsimp only; exact Kd.own_blk (Kd.R_away HO_3.out (fun _ hk => hk.1)))) _).trans (((cell_far (p := ⟨gb141, _, none⟩) (by first | exact Kd.own_blk (Kd.R_away HO_3.out (fun _ hk => hk.1)) | (rw [add_block]; exact Kd.own_blk (Kd.R_away HO_3.out (fun _ hk => hk.1))) | (show (Addr.add _ _).block ≠ _; rw [add_block]; exact Kd.own_blk (Kd.R_away HO_3.out (fun _ hk => hk.1))) | (dsimp only; exact Kd.own_blk (Kd.R_away HO_3.out (fun _ hk => hk.1)))) _).trans (hHeld.1)))))), ((cell_far (p := ⟨gb141, _, none⟩) (by first | exact Kd.own_blk (Kd.R_away HO_3.out (fun _ hk => hk.1)) | (rw [add_block]; exact Kd.own_blk (Kd.R_away HO_3.out (fun _ hk => hk.1))) | (show (Addr.add _ _).block ≠ _; rw [add_block]; exact Kd.own_blk (Kd.R_away HO_3.out (fun _ hk => hk.1))) | (dsimp only; exact Kd.own_blk (Kd.R_away HO_3.out (fun _ hk => hk.1)))) _).trans (((cell_far (p := ⟨gb141, _, none⟩) (by first | exact Kd.own_blk (Kd.R_away HO_3.out (fun _ hk => hk.1)) | (rw [add_block]; exact Kd.own_blk (Kd.R_away HO_3.out (fun _ hk => hk.1))) | (show (Addr.add _ _).block ≠ _; rw [add_block]; exact Kd.own_blk (Kd.R_away HO_3.out (fun _ hk => hk.1))) | (dsimp only; exact Kd.own_blk (Kd.R_away HO_3.out (fun _ hk => hk.1)))) _).trans (((cell_far (p := ⟨gb141, _, none⟩) (by first | exact Kd.own_blk (Kd.R_away HO_3.out (fun _ hk => hk.1)) | (rw [add_block]; exact Kd.own_blk (Kd.R_away HO_3.out (fun _ hk => hk.1))) | (show (Addr.add _ _).block ≠ _; rw [add_block]; exact Kd.own_blk (Kd.R_away HO_3.out (fun _ hk => hk.1))) | (dsimp only; exact Kd.own_blk (Kd.R_away HO_3.out (fun _ hk => hk.1)))) _).trans (hHeld.2.1)))))), ((cell_far (p := ⟨gb141, _, none⟩) (by first | exact Kd.own_blk (Kd.R_away HO_3.out (fun _ hk => hk.1)) | (rw [add_block]; exact Kd.own_blk (Kd.R_away HO_3.out (fun _ hk => hk.1))) | (show (Addr.add _ _).block ≠ _; rw [add_block]; exact Kd.own_blk (Kd.R_away HO_3.out (fun _ hk => hk.1))) | (dsimp only; exact Kd.own_blk (Kd.R_away HO_3.out (fun _ hk => hk.1)))) _).trans (((cell_far (p := ⟨gb141, _, none⟩) (by first | exact Kd.own_blk (Kd.R_away HO_3.out (fun _ hk => hk.1)) | (rw [add_block]; exact Kd.own_blk (Kd.R_away HO_3.out (fun _ hk => hk.1))) | (show (Addr.add _ _).block ≠ _; rw [add_block]; exact Kd.own_blk (Kd.R_away HO_3.out (fun _ hk => hk.1))) | (dsimp only; exact Kd.own_blk (Kd.R_away HO_3.out (fun _ hk => hk.1)))) _).trans (((cell_far (p := ⟨gb141, _, none⟩) (by first | exact Kd.own_blk (Kd.R_away HO_3.out (fun _ hk => hk.1)) | (rw [add_block]; exact Kd.own_blk (Kd.R_away HO_3.out (fun _ hk => hk.1))) | (show (Addr.add _ _).block ≠ _; rw [add_block]; exact Kd.own_blk (Kd.R_away HO_3.out (fun _ hk => hk.1))) | (dsimp only; exact Kd.own_blk (Kd.R_away HO_3.out (fun _ hk => hk.1)))) _).trans (hHeld.2.2.1)))))), ((cell_far (p := ⟨gb141, _, none⟩) (by first | exact Kd.own_blk (Kd.R_away HO_3.out (fun _ hk => hk.1)) | (rw [add_block]; exact Kd.own_blk (Kd.R_away HO_3.out (fun _ hk => hk.1))) | (show (Addr.add _ _).block ≠ _; rw [add_block]; exact Kd.own_blk (Kd.R_away HO_3.out (fun _ hk => hk.1))) | (dsimp only; exact Kd.own_blk (Kd.R_away HO_3.out (fun _ hk => hk.1)))) _).trans (((cell_far (p := ⟨gb141, _, none⟩) (by first | exact Kd.own_blk (Kd.R_away HO_3.out (fun _ hk => hk.1)) | (rw [add_block]; exact Kd.own_blk (Kd.R_away HO_3.out (fun _ hk => hk.1))) | (show (Addr.add _ _).block ≠ _; rw [add_block]; exact Kd.own_blk (Kd.R_away HO_3.out (fun _ hk => hk.1))) | (dsimp only; exact Kd.own_blk (Kd.R_away HO_3.out (fun _ hk => hk.1)))) _).trans (((cell_far (p := ⟨gb141, _, none⟩) (by first | exact Kd.own_blk (Kd.R_away HO_3.out (fun _ hk => hk.1)) | (rw [add_block]; exact Kd.own_blk (Kd.R_away HO_3.out (fun _ hk => hk.1))) | (show (Addr.add _ _).block ≠ _; rw [add_block]; exact Kd.own_blk (Kd.R_away HO_3.out (fun _ hk => hk.1))) | (dsimp only; exact Kd.own_blk (Kd.R_away HO_3.out (fun _ hk => hk.1)))) _).trans (hHeld.2.2.2.1)))))), ((cell_far (p := ⟨gb141, _, none⟩) (by first | exact Kd.own_blk (Kd.R_away HO_3.out (fun _ hk => hk.1)) | (rw [add_block]; exact Kd.own_blk (Kd.R_away HO_3.out (fun _ hk => hk.1))) | (show (Addr.add _ _).block ≠ _; rw [add_block]; exact Kd.own_blk (Kd.R_away HO_3.out (fun _ hk => hk.1))) | (dsimp only; exact Kd.own_blk (Kd.R_away HO_3.out (fun _ hk => hk.1)))) _).trans (((cell_far (p := ⟨gb141, _, none⟩) (by first | exact Kd.own_blk (Kd.R_away HO_3.out (fun _ hk => hk.1)) | (rw [add_block]; exact Kd.own_blk (Kd.R_away HO_3.out (fun _ hk => hk.1))) | (show (Addr.add _ _).block ≠ _; rw [add_block]; exact Kd.own_blk (Kd.R_away HO_3.out (fun _ hk => hk.1))) | (dsimp only; exact Kd.own_blk (Kd.R_away HO_3.out (fun _ hk => hk.1)))) _).trans (((cell_far (p := ⟨gb141, _, none⟩) (by first | exact Kd.own_blk (Kd.R_away HO_3.out (fun _ hk => hk.1)) | (rw [add_block]; exact Kd.own_blk (Kd.R_away HO_3.out (fun _ hk => hk.1))) | (show (Addr.add _ _).block ≠ _; rw [add_block]; exact Kd.own_blk (Kd.R_away HO_3.out (fun _ hk => hk.1))) | (dsimp only; exact Kd.own_blk (Kd.R_away HO_3.out (fun _ hk => hk.1)))) _).trans (hHeld.2.2.2.2.1)))))), ((cell_far (p := ⟨gb141, _, none⟩) (by first | exact Kd.own_blk (Kd.R_away HO_3.out (fun _ hk => hk.1)) | (rw [add_block]; exact Kd.own_blk (Kd.R_away HO_3.out (fun _ hk => hk.1))) | (show (Addr.add _ _).block ≠ _; rw [add_block]; exact Kd.own_blk (Kd.R_away HO_3.out (fun _ hk => hk.1))) | (dsimp only; exact Kd.own_blk (Kd.R_away HO_3.out (fun _ hk => hk.1)))) _).trans (((cell_far (p := ⟨gb141, _, none⟩) (by first | exact Kd.own_blk (Kd.R_away HO_3.out (fun _ hk => hk.1)) | (rw [add_block]; exact Kd.own_blk (Kd.R_away HO_3.out (fun _ hk => hk.1))) | (show (Addr.add _ _).block ≠ _; rw [add_block]; exact Kd.own_blk (Kd.R_away HO_3.out (fun _ hk => hk.1))) | (dsimp only; exact Kd.own_blk (Kd.R_away HO_3.out (fun _ hk => hk.1)))) _).trans (((cell_far (p := ⟨gb141, _, none⟩) (by first | exact Kd.own_blk (Kd.R_away HO_3.out (fun _ hk => hk.1)) | (rw [add_block]; exact Kd.own_blk (Kd.R_away HO_3.out (fun _ hk => hk.1))) | (show (Addr.add _ _).block ≠ _; rw [add_block]; exact Kd.own_blk (Kd.R_away HO_3.out (fun _ hk => hk.1))) | (dsimp only; exact Kd.own_blk (Kd.R_away HO_3.out (fun _ hk => hk.1)))) _).trans (hHeld.2.2.2.2.2))))))⟩ (fun hHeld => ?_)
                                          clear hK K
                                          refine one_ (i := 11) (N := none) #[true, true, true, true, true, true, true, true, true, true, true, true] rfl rfl (one_of HT_.out (by kernel_rfl)) (by decide) (fun K hK => ?_)
                                          have hs40 : w36.cell? ⟨gb142, 0, none⟩ = some (.int .i64 0) := (blk_cell BK142.out 0).trans rfl
                                          have hfs40 := blk_frozen BK142.out 0
                                          have hns40_0 := NB141_142.out
                                          have hms40_0 := NB142_141.out
                                          have hs41 : w36.cell? ⟨gb142, 1, none⟩ = some (.int .i64 0) := (blk_cell BK142.out 1).trans rfl
                                          have hfs41 := blk_frozen BK142.out 1
                                          have hns41_0 := NB141_142.out
                                          have hms41_0 := NB142_141.out
                                          have hs42 : w36.cell? ⟨gb142, 2, none⟩ = some (.int .i64 0) := (blk_cell BK142.out 2).trans rfl
                                          have hfs42 := blk_frozen BK142.out 2
                                          have hns42_0 := NB141_142.out
                                          have hms42_0 := NB142_141.out
                                          refine skip_ (w1 := ?_) (by rfl) rfl ?_ ?_
                                          rotate_left
                                          · go_simp
                                            rfl
                                          refine hK.out _ _ ⟨((cell_far (p := ⟨gb142, _, none⟩) (by first | exact Kd.own_blk (Kd.R_away HO_3.out (fun _ hk => hk.2)) | (rw [add_block]; exact Kd.own_blk (Kd.R_away HO_3.out (fun _ hk => hk.2))) | (show (Addr.add _ _).block ≠ _; rw [add_block]; exact Kd.own_blk (Kd.R_away HO_3.out (fun _ hk => hk.2))) | (dsimp only; exact Kd.own_blk (Kd.R_away HO_3.out (fun _ hk => hk.2)))) _).trans (((cell_far (p := ⟨gb142, _, none⟩) (by first | exact Kd.own_blk (Kd.R_away HO_3.out (fun _ hk => hk.2)) | (rw [add_block]; exact Kd.own_blk (Kd.R_away HO_3.out (fun _ hk => hk.2))) | (show (Addr.add _ _).block ≠ _; rw [add_block]; exact Kd.own_blk (Kd.R_away HO_3.out (fun _ hk => hk.2))) | (dsimp only; exact Kd.own_blk (Kd.R_away HO_3.out (fun _ hk => hk.2)))) _).trans (((cell_far (p := ⟨gb142, _, none⟩) (by first | exact Kd.own_blk (Kd.R_away HO_3.out (fun _ hk => hk.2)) | (rw [add_block]; exact Kd.own_blk (Kd.R_away HO_3.out (fun _ hk => hk.2))) | (show (Addr.add _ _).block ≠ _; rw [add_block]; exact Kd.own_blk (Kd.R_away HO_3.out (fun _ hk => hk.2))) | (dsimp only; exact Kd.own_blk (Kd.R_away HO_3.out (fun _ hk => hk.2)))) _).trans (hHeld.1)))))), ((cell_far (p := ⟨gb142, _, none⟩) (by first | exact Kd.own_blk (Kd.R_away HO_3.out (fun _ hk => hk.2)) | (rw [add_block]; exact Kd.own_blk (Kd.R_away HO_3.out (fun _ hk => hk.2))) | (show (Addr.add _ _).block ≠ _; rw [add_block]; exact Kd.own_blk (Kd.R_away HO_3.out (fun _ hk => hk.2))) | (dsimp only; exact Kd.own_blk (Kd.R_away HO_3.out (fun _ hk => hk.2)))) _).trans (((cell_far (p := ⟨gb142, _, none⟩) (by first | exact Kd.own_blk (Kd.R_away HO_3.out (fun _ hk => hk.2)) | (rw [add_block]; exact Kd.own_blk (Kd.R_away HO_3.out (fun _ hk => hk.2))) | (show (Addr.add _ _).block ≠ _; rw [add_block]; exact Kd.own_blk (Kd.R_away HO_3.out (fun _ hk => hk.2))) | (dsimp only; exact Kd.own_blk (Kd.R_away HO_3.out (fun _ hk => hk.2)))) _).trans (((cell_far (p := ⟨gb142, _, none⟩) (by first | exact Kd.own_blk (Kd.R_away HO_3.out (fun _ hk => hk.2)) | (rw [add_block]; exact Kd.own_blk (Kd.R_away HO_3.out (fun _ hk => hk.2))) | (show (Addr.add _ _).block ≠ _; rw [add_block]; exact Kd.own_blk (Kd.R_away HO_3.out (fun _ hk => hk.2))) | (dsimp only; exact Kd.own_blk (Kd.R_away HO_3.out (fun _ hk => hk.2)))) _).trans (hHeld.2.1)))))), ((cell_far (p := ⟨gb142, _, none⟩) (by first | exact Kd.own_blk (Kd.R_away HO_3.out (fun _ hk => hk.2)) | (rw [add_block]; exact Kd.own_blk (Kd.R_away HO_3.out (fun _ hk => hk.2))) | (show (Addr.add _ _).block ≠ _; rw [add_block]; exact Kd.own_blk (Kd.R_away HO_3.out (fun _ hk => hk.2))) | (dsimp only; exact Kd.own_blk (Kd.R_away HO_3.out (fun _ hk => hk.2)))) _).trans (((cell_far (p := ⟨gb142, _, none⟩) (by first | exact Kd.own_blk (Kd.R_away HO_3.out (fun _ hk => hk.2)) | (rw [add_block]; exact Kd.own_blk (Kd.R_away HO_3.out (fun _ hk => hk.2))) | (show (Addr.add _ _).block ≠ _; rw [add_block]; exact Kd.own_blk (Kd.R_away HO_3.out (fun _ hk => hk.2))) | (dsimp only; exact Kd.own_blk (Kd.R_away HO_3.out (fun _ hk => hk.2)))) _).trans (((cell_far (p := ⟨gb142, _, none⟩) (by first | exact Kd.own_blk (Kd.R_away HO_3.out (fun _ hk => hk.2)) | (rw [add_block]; exact Kd.own_blk (Kd.R_away HO_3.out (fun _ hk => hk.2))) | (show (Addr.add _ _).block ≠ _; rw [add_block]; exact Kd.own_blk (Kd.R_away HO_3.out (fun _ hk => hk.2))) | (dsimp only; exact Kd.own_blk (Kd.R_away HO_3.out (fun _ hk => hk.2)))) _).trans (hHeld.2.2.1)))))), ((cell_far (p := ⟨gb142, _, none⟩) (by first | exact Kd.own_blk (Kd.R_away HO_3.out (fun _ hk => hk.2)) | (rw [add_block]; exact Kd.own_blk (Kd.R_away HO_3.out (fun _ hk => hk.2))) | (show (Addr.add _ _).block ≠ _; rw [add_block]; exact Kd.own_blk (Kd.R_away HO_3.out (fun _ hk => hk.2))) | (dsimp only; exact Kd.own_blk (Kd.R_away HO_3.out (fun _ hk => hk.2)))) _).trans (((cell_far (p := ⟨gb142, _, none⟩) (by first | exact Kd.own_blk (Kd.R_away HO_3.out (fun _ hk => hk.2)) | (rw [add_block]; exact Kd.own_blk (Kd.R_away HO_3.out (fun _ hk => hk.2))) | (show (Addr.add _ _).block ≠ _; rw [add_block]; exact Kd.own_blk (Kd.R_away HO_3.out (fun _ hk => hk.2))) | (dsimp only; exact Kd.own_blk (Kd.R_away HO_3.out (fun _ hk => hk.2)))) _).trans (((cell_far (p := ⟨gb142, _, none⟩) (by first | exact Kd.own_blk (Kd.R_away HO_3.out (fun _ hk => hk.2)) | (rw [add_block]; exact Kd.own_blk (Kd.R_away HO_3.out (fun _ hk => hk.2))) | (show (Addr.add _ _).block ≠ _; rw [add_block]; exact Kd.own_blk (Kd.R_away HO_3.out (fun _ hk => hk.2))) | (dsimp only; exact Kd.own_blk (Kd.R_away HO_3.out (fun _ hk => hk.2)))) _).trans (hHeld.2.2.2.1)))))), ((cell_far (p := ⟨gb142, _, none⟩) (by first | exact Kd.own_blk (Kd.R_away HO_3.out (fun _ hk => hk.2)) | (rw [add_block]; exact Kd.own_blk (Kd.R_away HO_3.out (fun _ hk => hk.2))) | (show (Addr.add _ _).block ≠ _; rw [add_block]; exact Kd.own_blk (Kd.R_away HO_3.out (fun _ hk => hk.2))) | (dsimp only; exact Kd.own_blk (Kd.R_away HO_3.out (fun _ hk => hk.2)))) _).trans (((cell_far (p := ⟨gb142, _, none⟩) (by first | exact Kd.own_blk (Kd.R_away HO_3.out (fun _ hk => hk.2)) | (rw [add_block]; exact Kd.own_blk (Kd.R_away HO_3.out (fun _ hk => hk.2))) | (show (Addr.add _ _).block ≠ _; rw [add_block]; exact Kd.own_blk (Kd.R_away HO_3.out (fun _ hk => hk.2))) | (dsimp only; exact Kd.own_blk (Kd.R_away HO_3.out (fun _ hk => hk.2)))) _).trans (((cell_far (p := ⟨gb142, _, none⟩) (by first | exact Kd.own_blk (Kd.R_away HO_3.out (fun _ hk => hk.2)) | (rw [add_block]; exact Kd.own_blk (Kd.R_away HO_3.out (fun _ hk => hk.2))) | (show (Addr.add _ _).block ≠ _; rw [add_block]; exact Kd.own_blk (Kd.R_away HO_3.out (fun _ hk => hk.2))) | (dsimp only; exact Kd.own_blk (Kd.R_away HO_3.out (fun _ hk => hk.2)))) _).trans (hHeld.2.2.2.2.1)))))), ((cell_far (p := ⟨gb142, _, none⟩) (by first | exact Kd.own_blk (Kd.R_away HO_3.out (fun _ hk => hk.2)) | (rw [add_block]; exact Kd.own_blk (Kd.R_away HO_3.out (fun _ hk => hk.2))) | (show (Addr.add _ _).block ≠ _; rw [add_block]; exact Kd.own_blk (Kd.R_away HO_3.out (fun _ hk => hk.2))) | (dsimp only; exact Kd.own_blk (Kd.R_away HO_3.out (fun _ hk => hk.2)))) _).trans (((cell_far (p := ⟨gb142, _, none⟩) (by first | exact Kd.own_blk (Kd.R_away HO_3.out (fun _ hk => hk.2)) | (rw [add_block]; exact Kd.own_blk (Kd.R_away HO_3.out (fun _ hk => hk.2))) | (show (Addr.add _ _).block ≠ _; rw [add_block]; exact Kd.own_blk (Kd.R_away HO_3.out (fun _ hk => hk.2))) | (dsimp only; exact Kd.own_blk (Kd.R_away HO_3.out (fun _ hk => hk.2)))) _).trans (((cell_far (p := ⟨gb142, _, none⟩) (by first | exact Kd.own_blk (Kd.R_away HO_3.out (fun _ hk => hk.2)) | (rw [add_block]; exact Kd.own_blk (Kd.R_away HO_3.out (fun _ hk => hk.2))) | (show (Addr.add _ _).block ≠ _; rw [add_block]; exact Kd.own_blk (Kd.R_away HO_3.out (fun _ hk => hk.2))) | (dsimp only; exact Kd.own_blk (Kd.R_away HO_3.out (fun _ hk => hk.2)))) _).trans (hHeld.2.2.2.2.2))))))⟩ (fun hHeld => ?_)
                                          clear hK K
                                          refine done_ (done_of HT_.out (by kernel_rfl)) ?_
                                          try go_wp2
                                          have n0_ : Aside0 (Kd.R k33 33 ((((((w36.setCell ⟨gb141, 0, none⟩ (.int .i64 ((rd_T33 t126 x9_3).f0))).setCell ⟨gb141, 1, none⟩ (.int .i64 ((rd_T33 t126 x9_3).f1))).setCell ⟨gb141, 2, none⟩ (.int .i64 ((rd_T33 t126 x9_3).f2))).setCell ⟨gb142, 0, none⟩ (.int .i64 ((rd_T33 t126 x11_4).f0))).setCell ⟨gb142, 1, none⟩ (.int .i64 ((rd_T33 t126 x11_4).f1))).setCell ⟨gb142, 2, none⟩ (.int .i64 ((rd_T33 t126 x11_4).f2))) w.heap.size (fun k_ => k_ ≠ gb141 ∧ k_ ≠ gb142) (.slice (some ad139) t126.length co18) t126) := ⟨by (with_reducible repeat (first | apply Kd.R_alloc | apply Kd.R_drewN | apply Kd.R_drew)); exact Kd.R_mono (Kd.R_far (p := ⟨gb142, 2, none⟩) (Kd.R_far (p := ⟨gb142, 1, none⟩) (Kd.R_far (p := ⟨gb142, 0, none⟩) (Kd.R_far (p := ⟨gb141, 2, none⟩) (Kd.R_far (p := ⟨gb141, 1, none⟩) (Kd.R_far (p := ⟨gb141, 0, none⟩) (Kd.R_mono (Kd.R_mono HO_3.out (fun k_ hk => (⟨hk, hk.1⟩ : _ ∧ k_ ≠ gb141))) (fun k_ hk => (⟨hk, hk.1.2⟩ : _ ∧ k_ ≠ gb142))) (fun _ hk => hk.1.2) (.int .i64 ((rd_T33 t126 x9_3).f0))) (fun _ hk => hk.1.2) (.int .i64 ((rd_T33 t126 x9_3).f1))) (fun _ hk => hk.1.2) (.int .i64 ((rd_T33 t126 x9_3).f2))) (fun _ hk => hk.2) (.int .i64 ((rd_T33 t126 x11_4).f0))) (fun _ hk => hk.2) (.int .i64 ((rd_T33 t126 x11_4).f1))) (fun _ hk => hk.2) (.int .i64 ((rd_T33 t126 x11_4).f2))) (fun _ hk => ⟨hk.1.1.1, hk.1.1.2⟩)⟩
                                          have n1_ : Aside0 (Kd.R (Kd.int .i64) 3 ((((((w36.setCell ⟨gb141, 0, none⟩ (.int .i64 ((rd_T33 t126 x9_3).f0))).setCell ⟨gb141, 1, none⟩ (.int .i64 ((rd_T33 t126 x9_3).f1))).setCell ⟨gb141, 2, none⟩ (.int .i64 ((rd_T33 t126 x9_3).f2))).setCell ⟨gb142, 0, none⟩ (.int .i64 ((rd_T33 t126 x11_4).f0))).setCell ⟨gb142, 1, none⟩ (.int .i64 ((rd_T33 t126 x11_4).f1))).setCell ⟨gb142, 2, none⟩ (.int .i64 ((rd_T33 t126 x11_4).f2))) w.heap.size (fun _ => True) v131 t127) := ⟨by (with_reducible repeat (first | apply Kd.R_alloc | apply Kd.R_drewN | apply Kd.R_drew)); exact Kd.R_mono (Kd.R_far (p := ⟨gb142, 2, none⟩) (Kd.R_far (p := ⟨gb142, 1, none⟩) (Kd.R_far (p := ⟨gb142, 0, none⟩) (Kd.R_far (p := ⟨gb141, 2, none⟩) (Kd.R_far (p := ⟨gb141, 1, none⟩) (Kd.R_far (p := ⟨gb141, 0, none⟩) (Kd.R_types (Kd.R_types HO_4.out BK141.out (by decide)) BK142.out (by decide)) (fun _ hk => hk.1.2) (.int .i64 ((rd_T33 t126 x9_3).f0))) (fun _ hk => hk.1.2) (.int .i64 ((rd_T33 t126 x9_3).f1))) (fun _ hk => hk.1.2) (.int .i64 ((rd_T33 t126 x9_3).f2))) (fun _ hk => hk.2) (.int .i64 ((rd_T33 t126 x11_4).f0))) (fun _ hk => hk.2) (.int .i64 ((rd_T33 t126 x11_4).f1))) (fun _ hk => hk.2) (.int .i64 ((rd_T33 t126 x11_4).f2))) (fun _ hk => trivial)⟩
                                          have n2_ : Aside0 (Kd.R k37 37 ((((((w36.setCell ⟨gb141, 0, none⟩ (.int .i64 ((rd_T33 t126 x9_3).f0))).setCell ⟨gb141, 1, none⟩ (.int .i64 ((rd_T33 t126 x9_3).f1))).setCell ⟨gb141, 2, none⟩ (.int .i64 ((rd_T33 t126 x9_3).f2))).setCell ⟨gb142, 0, none⟩ (.int .i64 ((rd_T33 t126 x11_4).f0))).setCell ⟨gb142, 1, none⟩ (.int .i64 ((rd_T33 t126 x11_4).f1))).setCell ⟨gb142, 2, none⟩ (.int .i64 ((rd_T33 t126 x11_4).f2))) w.heap.size (fun _ => True) (.slice Ao19 x6_2.length co19) x6_2) := ⟨by (with_reducible repeat (first | apply Kd.R_alloc | apply Kd.R_drewN | apply Kd.R_drew)); exact Kd.R_mono (Kd.R_far (p := ⟨gb142, 2, none⟩) (Kd.R_far (p := ⟨gb142, 1, none⟩) (Kd.R_far (p := ⟨gb142, 0, none⟩) (Kd.R_far (p := ⟨gb141, 2, none⟩) (Kd.R_far (p := ⟨gb141, 1, none⟩) (Kd.R_far (p := ⟨gb141, 0, none⟩) (Kd.R_types (Kd.R_types HO_6.out BK141.out (by decide)) BK142.out (by decide)) (fun _ hk => hk.1.2) (.int .i64 ((rd_T33 t126 x9_3).f0))) (fun _ hk => hk.1.2) (.int .i64 ((rd_T33 t126 x9_3).f1))) (fun _ hk => hk.1.2) (.int .i64 ((rd_T33 t126 x9_3).f2))) (fun _ hk => hk.2) (.int .i64 ((rd_T33 t126 x11_4).f0))) (fun _ hk => hk.2) (.int .i64 ((rd_T33 t126 x11_4).f1))) (fun _ hk => hk.2) (.int .i64 ((rd_T33 t126 x11_4).f2))) (fun _ hk => trivial)⟩
                                          have n3_ : Aside0 (((((((w36.setCell ⟨gb141, 0, none⟩ (.int .i64 ((rd_T33 t126 x9_3).f0))).setCell ⟨gb141, 1, none⟩ (.int .i64 ((rd_T33 t126 x9_3).f1))).setCell ⟨gb141, 2, none⟩ (.int .i64 ((rd_T33 t126 x9_3).f2))).setCell ⟨gb142, 0, none⟩ (.int .i64 ((rd_T33 t126 x11_4).f0))).setCell ⟨gb142, 1, none⟩ (.int .i64 ((rd_T33 t126 x11_4).f1))).setCell ⟨gb142, 2, none⟩ (.int .i64 ((rd_T33 t126 x11_4).f2))).heap[gb141]? = some (.cells #[.int .i64 ((rd_T33 t126 x9_3).f0), .int .i64 ((rd_T33 t126 x9_3).f1), .int .i64 ((rd_T33 t126 x9_3).f2)] 33 (0, 0))) := ⟨by (with_reducible repeat (first | refine blk_drewN ?_ _ | refine blk_drew ?_ | refine blk_alloc ?_ _)); refine blk_far ?_ NB141_142.out _; (with_reducible repeat (first | refine blk_drewN ?_ _ | refine blk_drew ?_ | refine blk_alloc ?_ _)); refine blk_far ?_ NB141_142.out _; (with_reducible repeat (first | refine blk_drewN ?_ _ | refine blk_drew ?_ | refine blk_alloc ?_ _)); refine blk_far ?_ NB141_142.out _; (with_reducible repeat (first | refine blk_drewN ?_ _ | refine blk_drew ?_ | refine blk_alloc ?_ _)); refine blk_put (cs := #[.int .i64 ((rd_T33 t126 x9_3).f0), .int .i64 ((rd_T33 t126 x9_3).f1), .int .i64 0]) ?_ 2 _ rfl; (with_reducible repeat (first | refine blk_drewN ?_ _ | refine blk_drew ?_ | refine blk_alloc ?_ _)); refine blk_put (cs := #[.int .i64 ((rd_T33 t126 x9_3).f0), .int .i64 0, .int .i64 0]) ?_ 1 _ rfl; (with_reducible repeat (first | refine blk_drewN ?_ _ | refine blk_drew ?_ | refine blk_alloc ?_ _)); refine blk_put (cs := #[.int .i64 0, .int .i64 0, .int .i64 0]) ?_ 0 _ rfl; (with_reducible repeat (first | refine blk_drewN ?_ _ | refine blk_drew ?_ | refine blk_alloc ?_ _)); exact BK141.out⟩
                                          have n4_ : Aside0 (((((((w36.setCell ⟨gb141, 0, none⟩ (.int .i64 ((rd_T33 t126 x9_3).f0))).setCell ⟨gb141, 1, none⟩ (.int .i64 ((rd_T33 t126 x9_3).f1))).setCell ⟨gb141, 2, none⟩ (.int .i64 ((rd_T33 t126 x9_3).f2))).setCell ⟨gb142, 0, none⟩ (.int .i64 ((rd_T33 t126 x11_4).f0))).setCell ⟨gb142, 1, none⟩ (.int .i64 ((rd_T33 t126 x11_4).f1))).setCell ⟨gb142, 2, none⟩ (.int .i64 ((rd_T33 t126 x11_4).f2))).heap[gb142]? = some (.cells #[.int .i64 ((rd_T33 t126 x11_4).f0), .int .i64 ((rd_T33 t126 x11_4).f1), .int .i64 ((rd_T33 t126 x11_4).f2)] 33 (0, 0))) := ⟨by (with_reducible repeat (first | refine blk_drewN ?_ _ | refine blk_drew ?_ | refine blk_alloc ?_ _)); refine blk_put (cs := #[.int .i64 ((rd_T33 t126 x11_4).f0), .int .i64 ((rd_T33 t126 x11_4).f1), .int .i64 0]) ?_ 2 _ rfl; (with_reducible repeat (first | refine blk_drewN ?_ _ | refine blk_drew ?_ | refine blk_alloc ?_ _)); refine blk_put (cs := #[.int .i64 ((rd_T33 t126 x11_4).f0), .int .i64 0, .int .i64 0]) ?_ 1 _ rfl; (with_reducible repeat (first | refine blk_drewN ?_ _ | refine blk_drew ?_ | refine blk_alloc ?_ _)); refine blk_put (cs := #[.int .i64 0, .int .i64 0, .int .i64 0]) ?_ 0 _ rfl; (with_reducible repeat (first | refine blk_drewN ?_ _ | refine blk_drew ?_ | refine blk_alloc ?_ _)); refine blk_far ?_ NB142_141.out _; (with_reducible repeat (first | refine blk_drewN ?_ _ | refine blk_drew ?_ | refine blk_alloc ?_ _)); refine blk_far ?_ NB142_141.out _; (with_reducible repeat (first | refine blk_drewN ?_ _ | refine blk_drew ?_ | refine blk_alloc ?_ _)); refine blk_far ?_ NB142_141.out _; (with_reducible repeat (first | refine blk_drewN ?_ _ | refine blk_drew ?_ | refine blk_alloc ?_ _)); exact BK142.out⟩
                                          have n5_ : Aside0 (Below w.heap.size w ((((((w36.setCell ⟨gb141, 0, none⟩ (.int .i64 ((rd_T33 t126 x9_3).f0))).setCell ⟨gb141, 1, none⟩ (.int .i64 ((rd_T33 t126 x9_3).f1))).setCell ⟨gb141, 2, none⟩ (.int .i64 ((rd_T33 t126 x9_3).f2))).setCell ⟨gb142, 0, none⟩ (.int .i64 ((rd_T33 t126 x11_4).f0))).setCell ⟨gb142, 1, none⟩ (.int .i64 ((rd_T33 t126 x11_4).f1))).setCell ⟨gb142, 2, none⟩ (.int .i64 ((rd_T33 t126 x11_4).f2)))) := ⟨by repeat (first | (with_reducible first | exact HB.out | apply below_alloc | apply pw_below_drewN | apply below_drew1 | refine below_set ?_ GE141.out | refine below_set ?_ GE142.out) | exact HB.out)⟩
                                          (try clear HO_3)
                                          (try clear HO_4)
                                          (try clear HO_6)
                                          (try clear BK141)
                                          (try clear BK142)
                                          (try clear HB)
                                          generalize ((((((w36.setCell ⟨gb141, 0, none⟩ (.int .i64 ((rd_T33 t126 x9_3).f0))).setCell ⟨gb141, 1, none⟩ (.int .i64 ((rd_T33 t126 x9_3).f1))).setCell ⟨gb141, 2, none⟩ (.int .i64 ((rd_T33 t126 x9_3).f2))).setCell ⟨gb142, 0, none⟩ (.int .i64 ((rd_T33 t126 x11_4).f0))).setCell ⟨gb142, 1, none⟩ (.int .i64 ((rd_T33 t126 x11_4).f1))).setCell ⟨gb142, 2, none⟩ (.int .i64 ((rd_T33 t126 x11_4).f2))) = w43 at n0_ n1_ n2_ n3_ n4_ n5_ ⊢
                                          have HO_3 := n0_
                                          have HO_4 := n1_
                                          have HO_6 := n2_
                                          have BK141 := n3_
                                          have BK142 := n4_
                                          have HB := n5_
                                          clear n0_ n1_ n2_ n3_ n4_ n5_
                                          have n0_ := Aside0.mk (Kd.R_drew HO_3.out)
                                          have n1_ := Aside0.mk (Kd.R_drew HO_4.out)
                                          have n2_ := Aside0.mk (Kd.R_drew HO_6.out)
                                          have n3_ := Aside0.mk (blk_drew BK141.out)
                                          have n4_ := Aside0.mk (blk_drew BK142.out)
                                          have n5_ := Aside0.mk (below_drew1 HB.out)
                                          clear HO_3
                                          clear HO_4
                                          clear HO_6
                                          clear BK141
                                          clear BK142
                                          clear HB
                                          have HO_3 := n0_
                                          have HO_4 := n1_
                                          have HO_6 := n2_
                                          have BK141 := n3_
                                          have BK142 := n4_
                                          have HB := n5_
                                          clear n0_ n1_ n2_ n3_ n4_ n5_
                                          have p143 : 0 ≤ (x9_3 : Int) := of_decide_eq_true (by first | (with_reducible assumption) | assumption)
                                          have q143 : x9_3 < (x6_2.length : Int) := of_decide_eq_true (by first | (with_reducible assumption) | assumption)
                                          obtain ⟨ad143, e143, hx143_0, hx143_1⟩ := at_T37 (Kd.R_reads' HO_6.out).2.2 x9_3 p143 q143
                                          cases e143
                                          replace p143 := eq_true p143
                                          replace q143 := eq_true q143
                                          have p144 : 0 ≤ (x11_4 : Int) := of_decide_eq_true (by first | (with_reducible assumption) | assumption)
                                          have q144 : x11_4 < (x6_2.length : Int) := of_decide_eq_true (by first | (with_reducible assumption) | assumption)
                                          obtain ⟨ad144, e144, hx144_0, hx144_1⟩ := at_T37 (Kd.R_reads' HO_6.out).2.2 x11_4 p144 q144
                                          obtain rfl : ad143 = ad144 := (by injection e144)
                                          replace p144 := eq_true p144
                                          replace q144 := eq_true q144
                                          refine start_ (n := 16) (S := fun w' => w'.cell? (ad143.add ((x9_3).toNat * 2)) = some (.int .i64 ((rd_T37 x6_2 x9_3).f0)) ∧ w'.cell? ⟨(ad143.add ((x9_3).toNat * 2)).block, (ad143.add ((x9_3).toNat * 2)).off + 1, none⟩ = some (.int .i64 ((rd_T37 x6_2 x9_3).f1)) ∧ w'.cell? (ad143.add ((x11_4).toNat * 2)) = some (.int .i64 ((rd_T37 x6_2 x11_4).f0)) ∧ w'.cell? ⟨(ad143.add ((x11_4).toNat * 2)).block, (ad143.add ((x11_4).toNat * 2)).off + 1, none⟩ = some (.int .i64 ((rd_T37 x6_2 x11_4).f1))) (ds := []) #[false, false, false, false, false, false, false, false, false, false, false, false, false, false, false, false] (by kernel_rfl) rfl rfl ⟨hx143_0, hx143_1, hx144_0, hx144_1⟩ (fun hHeld => ?_); refine with_tabW beadlelaw22_CellsOnce.tab22 beadlelaw22_CellsOnce.bits22 (fun HT_ HW_ => ?_)
                                          generalize w43.drew = w44 at HO_3 HO_4 HO_6 BK141 BK142 HB hx143_0 hx143_1 hx144_0 hx144_1 hHeld ⊢
                                          refine pure_ (i := 0) (N := some 68) (v := ?_) (a' := ?_) #[true, false, false, false, false, false, false, false, false, false, false, false, false, false, false, false] rfl rfl (any_of HT_.out (by kernel_rfl)) (fun _ _ _ h => h) (Or.inl ⟨by rfl, ?_⟩) ?_ ?_
                                          rotate_left
                                          · intro w'
                                            go_simp
                                            with_reducible rfl
                                          rotate_left
                                          · simp only [Act.put, List.setIfInBounds_toArray, List.set_cons_zero, List.set_cons_succ, i64_w, i32_w]
                                            rfl
                                          refine pure_ (i := 1) (N := some 69) (v := ?_) (a' := ?_) #[true, true, false, false, false, false, false, false, false, false, false, false, false, false, false, false] rfl rfl (any_of HT_.out (by kernel_rfl)) (fun _ _ _ h => h) (Or.inl ⟨by rfl, ?_⟩) ?_ ?_
                                          rotate_left
                                          · intro w'
                                            go_simp
                                            with_reducible rfl
                                          rotate_left
                                          · simp only [Act.put, List.setIfInBounds_toArray, List.set_cons_zero, List.set_cons_succ, i64_w, i32_w]
                                            rfl
                                          refine pure_ (i := 2) (N := some 70) (v := ?_) (a' := ?_) #[true, true, true, false, false, false, false, false, false, false, false, false, false, false, false, false] rfl rfl (any_of HT_.out (by kernel_rfl)) (fun _ _ _ h => h) (Or.inl ⟨by rfl, ?_⟩) ?_ ?_
                                          rotate_left
                                          · intro w'
                                            go_simp
                                            with_reducible rfl
                                          rotate_left
                                          · simp only [Act.put, List.setIfInBounds_toArray, List.set_cons_zero, List.set_cons_succ, i64_w, i32_w]
                                            rfl
                                          refine pure_ (i := 3) (N := some 71) (v := ?_) (a' := ?_) #[true, true, true, true, false, false, false, false, false, false, false, false, false, false, false, false] rfl rfl (any_of HT_.out (by kernel_rfl)) (fun _ _ _ h => h) (Or.inl ⟨by rfl, ?_⟩) ?_ ?_
                                          rotate_left
                                          · intro w'
                                            go_simp
                                            with_reducible rfl
                                          rotate_left
                                          · simp only [Act.put, List.setIfInBounds_toArray, List.set_cons_zero, List.set_cons_succ, i64_w, i32_w]
                                            rfl
                                          refine pure_ (i := 7) (N := some 75) (v := ?_) (a' := ?_) #[true, true, true, true, false, false, false, true, false, false, false, false, false, false, false, false] rfl rfl (any_of HT_.out (by kernel_rfl)) (fun _ _ _ h => h) (Or.inl ⟨by rfl, ?_⟩) ?_ ?_
                                          rotate_left
                                          · intro w'
                                            go_simp
                                            with_reducible rfl
                                          rotate_left
                                          · simp only [Act.put, List.setIfInBounds_toArray, List.set_cons_zero, List.set_cons_succ, i64_w, i32_w]
                                            rfl
                                          refine pure_ (i := 8) (N := some 76) (v := ?_) (a' := ?_) #[true, true, true, true, false, false, false, true, true, false, false, false, false, false, false, false] rfl rfl (any_of HT_.out (by kernel_rfl)) (fun _ _ _ h => h) (Or.inl ⟨by rfl, ?_⟩) ?_ ?_
                                          rotate_left
                                          · intro w'
                                            go_simp
                                            with_reducible rfl
                                          rotate_left
                                          · simp only [Act.put, List.setIfInBounds_toArray, List.set_cons_zero, List.set_cons_succ, i64_w, i32_w]
                                            rfl
                                          refine pure_ (i := 9) (N := some 77) (v := ?_) (a' := ?_) #[true, true, true, true, false, false, false, true, true, true, false, false, false, false, false, false] rfl rfl (any_of HT_.out (by kernel_rfl)) (fun _ _ _ h => h) (Or.inl ⟨by rfl, ?_⟩) ?_ ?_
                                          rotate_left
                                          · intro w'
                                            go_simp
                                            with_reducible rfl
                                          rotate_left
                                          · simp only [Act.put, List.setIfInBounds_toArray, List.set_cons_zero, List.set_cons_succ, i64_w, i32_w]
                                            rfl
                                          refine pure_ (i := 10) (N := some 78) (v := ?_) (a' := ?_) #[true, true, true, true, false, false, false, true, true, true, true, false, false, false, false, false] rfl rfl (any_of HT_.out (by kernel_rfl)) (fun _ _ _ h => h) (Or.inl ⟨by rfl, ?_⟩) ?_ ?_
                                          rotate_left
                                          · intro w'
                                            go_simp
                                            with_reducible rfl
                                          rotate_left
                                          · simp only [Act.put, List.setIfInBounds_toArray, List.set_cons_zero, List.set_cons_succ, i64_w, i32_w]
                                            rfl
                                          refine take_ (i := 4) (N := some 72) (v := ?_) (a' := ?_) #[true, true, true, true, true, false, false, true, true, true, true, false, false, false, false, false] rfl rfl (take_ofW HT_.out HW_.out (by kernel_rfl)) (fun _ _ _ h => h) (Or.inl ⟨by rfl, ?_⟩) hHeld ?_ ?_
                                          rotate_left
                                          · rintro w' ⟨s0, s1, s2, s3⟩
                                            go_simp
                                            with_reducible rfl
                                          rotate_left
                                          · simp only [Act.put, List.setIfInBounds_toArray, List.set_cons_zero, List.set_cons_succ, i64_w, i32_w]
                                            rfl
                                          refine pure_ (i := 5) (N := some 73) (v := ?_) (a' := ?_) #[true, true, true, true, true, true, false, true, true, true, true, false, false, false, false, false] rfl rfl (any_of HT_.out (by kernel_rfl)) (fun _ _ _ h => h) (Or.inl ⟨by rfl, ?_⟩) ?_ ?_
                                          rotate_left
                                          · intro w'
                                            go_simp
                                            with_reducible rfl
                                          rotate_left
                                          · simp only [Act.put, List.setIfInBounds_toArray, List.set_cons_zero, List.set_cons_succ, i64_w, i32_w]
                                            rfl
                                          refine pure_ (i := 6) (N := some 74) (v := ?_) (a' := ?_) #[true, true, true, true, true, true, true, true, true, true, true, false, false, false, false, false] rfl rfl (any_of HT_.out (by kernel_rfl)) (fun _ _ _ h => h) (Or.inl ⟨by rfl, ?_⟩) ?_ ?_
                                          rotate_left
                                          · intro w'
                                            go_simp
                                            with_reducible rfl
                                          rotate_left
                                          · simp only [Act.put, List.setIfInBounds_toArray, List.set_cons_zero, List.set_cons_succ, i64_w, i32_w]
                                            rfl
                                          refine pure_ (i := 14) (N := some 14) (v := ?_) (a' := ?_) #[true, true, true, true, true, true, true, true, true, true, true, false, false, false, true, false] rfl rfl (any_of HT_.out (by kernel_rfl)) (fun _ _ _ h => h) (Or.inl ⟨by rfl, ?_⟩) ?_ ?_
                                          rotate_left
                                          · intro w'
                                            go_simp
                                            with_reducible rfl
                                          rotate_left
                                          · simp only [Act.put, List.setIfInBounds_toArray, List.set_cons_zero, List.set_cons_succ, i64_w, i32_w]
                                            rfl
                                          refine take_ (i := 11) (N := some 79) (v := ?_) (a' := ?_) #[true, true, true, true, true, true, true, true, true, true, true, true, false, false, true, false] rfl rfl (take_ofW HT_.out HW_.out (by kernel_rfl)) (fun _ _ _ h => h) (Or.inl ⟨by rfl, ?_⟩) hHeld ?_ ?_
                                          rotate_left
                                          · rintro w' ⟨s0, s1, s2, s3⟩
                                            go_simp
                                            with_reducible rfl
                                          rotate_left
                                          · simp only [Act.put, List.setIfInBounds_toArray, List.set_cons_zero, List.set_cons_succ, i64_w, i32_w]
                                            rfl
                                          refine pure_ (i := 12) (N := some 80) (v := ?_) (a' := ?_) #[true, true, true, true, true, true, true, true, true, true, true, true, true, false, true, false] rfl rfl (any_of HT_.out (by kernel_rfl)) (fun _ _ _ h => h) (Or.inl ⟨by rfl, ?_⟩) ?_ ?_
                                          rotate_left
                                          · intro w'
                                            go_simp
                                            with_reducible rfl
                                          rotate_left
                                          · simp only [Act.put, List.setIfInBounds_toArray, List.set_cons_zero, List.set_cons_succ, i64_w, i32_w]
                                            rfl
                                          refine pure_ (i := 13) (N := some 81) (v := ?_) (a' := ?_) #[true, true, true, true, true, true, true, true, true, true, true, true, true, true, true, false] rfl rfl (any_of HT_.out (by kernel_rfl)) (fun _ _ _ h => h) (Or.inl ⟨by rfl, ?_⟩) ?_ ?_
                                          rotate_left
                                          · intro w'
                                            go_simp
                                            with_reducible rfl
                                          rotate_left
                                          · simp only [Act.put, List.setIfInBounds_toArray, List.set_cons_zero, List.set_cons_succ, i64_w, i32_w]
                                            rfl
                                          refine pure_ (i := 15) (N := some 15) (v := ?_) (a' := ?_) #[true, true, true, true, true, true, true, true, true, true, true, true, true, true, true, true] rfl rfl (any_of HT_.out (by kernel_rfl)) (fun _ _ _ h => h) (Or.inl ⟨by rfl, ?_⟩) ?_ ?_
                                          rotate_left
                                          · intro w'
                                            go_simp
                                            with_reducible rfl
                                          rotate_left
                                          · simp only [Act.put, List.setIfInBounds_toArray, List.set_cons_zero, List.set_cons_succ, i64_w, i32_w]
                                            rfl
                                          refine done_ (done_of HT_.out (by kernel_rfl)) ?_
                                          have H := HCw.out
                                          clear HCw
                                          by_cases c32 : x10_4 = true
                                          · subst c32
                                            have H1 : (beadlelaw22_CellsOnce.l2 k4 t126 t127 x6_2 x8_3 x9_3 true (wrap64 (x11_4 + 1))) = some r := by rw [if_pos rfl] at H; exact H
                                            clear H
                                            have H := H1
                                            clear H1
                                            have H' := Aside0.mk H
                                            clear H
                                            try go_wp2
                                            go_roundg k4
                                            case measure => have := HJ3.out; have := HK2.out; have := HK3.out; have := HK4.out; omega
                                            case rel => exact ⟨(true), (wrap64 (x11_4 + 1)), (by first | rfl | (simp; done) | (simp [*]; done)), (by first | rfl | (simp; done) | (simp [*]; done)), H', ⟨by have := HJ3.out; have := HK2.out; have := HK3.out; have := HK4.out; omega⟩, ⟨by (with_reducible repeat (first | apply Kd.R_alloc | apply Kd.R_drewN | apply Kd.R_drew)); exact Kd.R_mono HO_3.out (fun _ hk => trivial)⟩, ⟨by (with_reducible repeat (first | apply Kd.R_alloc | apply Kd.R_drewN | apply Kd.R_drew)); exact HO_4.out⟩, ⟨by (with_reducible repeat (first | apply Kd.R_alloc | apply Kd.R_drewN | apply Kd.R_drew)); exact HO_6.out⟩, ⟨by repeat (first | (with_reducible first | exact HB.out | apply below_alloc | apply pw_below_drewN | apply below_drew1 | refine below_set ?_ GE141.out | refine below_set ?_ GE142.out) | exact HB.out)⟩⟩
                                          · replace c32 := Bool.eq_false_iff.mpr c32
                                            subst c32
                                            have H1 : (if ((rd_T33 t126 x9_3).f0) < (wrap64 (((rd_T33 t126 x11_4).f0) + ((rd_T33 t126 x11_4).f2))) then (if ((rd_T33 t126 x11_4).f0) < (wrap64 (((rd_T33 t126 x9_3).f0) + ((rd_T33 t126 x9_3).f2))) then (if ((rd_T33 t126 x9_3).f1) < (wrap64 (((rd_T33 t126 x11_4).f1) + (ji31))) then (beadlelaw22_CellsOnce.l2 k4 t126 t127 x6_2 x8_3 x9_3 (decide (((rd_T33 t126 x11_4).f1) < (wrap64 (((rd_T33 t126 x9_3).f1) + (ji28))))) (wrap64 (x11_4 + 1))) else (beadlelaw22_CellsOnce.l2 k4 t126 t127 x6_2 x8_3 x9_3 false (wrap64 (x11_4 + 1)))) else (beadlelaw22_CellsOnce.l2 k4 t126 t127 x6_2 x8_3 x9_3 false (wrap64 (x11_4 + 1)))) else (beadlelaw22_CellsOnce.l2 k4 t126 t127 x6_2 x8_3 x9_3 false (wrap64 (x11_4 + 1)))) = some r := by rw [if_neg (show ¬ (false = true) by decide)] at H; exact H
                                            clear H
                                            have H := H1
                                            clear H1
                                            by_cases c45 : ((rd_T33 t126 x9_3).f0) < (wrap64 (((rd_T33 t126 x11_4).f0) + ((rd_T33 t126 x11_4).f2)))
                                            · rw [if_pos c45] at H
                                              have c45b0 : decide (((rd_T33 t126 x9_3).f0) < (wrap64 (((rd_T33 t126 x11_4).f0) + ((rd_T33 t126 x11_4).f2)))) = true := decide_eq_true c45
                                              clear c45
                                              by_cases c46 : ((rd_T33 t126 x11_4).f0) < (wrap64 (((rd_T33 t126 x9_3).f0) + ((rd_T33 t126 x9_3).f2)))
                                              · rw [if_pos c46] at H
                                                have c46b0 : decide (((rd_T33 t126 x11_4).f0) < (wrap64 (((rd_T33 t126 x9_3).f0) + ((rd_T33 t126 x9_3).f2)))) = true := decide_eq_true c46
                                                clear c46
                                                by_cases c47 : ((rd_T33 t126 x9_3).f1) < (wrap64 (((rd_T33 t126 x11_4).f1) + (ji31)))
                                                · rw [if_pos c47] at H
                                                  have c47b0 : decide (((rd_T33 t126 x9_3).f1) < (wrap64 (((rd_T33 t126 x11_4).f1) + (ji31)))) = true := decide_eq_true c47
                                                  clear c47
                                                  have H' := Aside0.mk H
                                                  clear H
                                                  have hnb60 := NB141_142.out
                                                  have hnc60 := NB142_141.out
                                                  have hcz61_0 : w44.cell? ⟨gb141, 0, none⟩ = some (.int .i64 ((rd_T33 t126 x9_3).f0)) := (blk_cell BK141.out 0).trans rfl
                                                  have hcz61_1 : w44.cell? ⟨gb141, 1, none⟩ = some (.int .i64 ((rd_T33 t126 x9_3).f1)) := (blk_cell BK141.out 1).trans rfl
                                                  have hcz61_2 : w44.cell? ⟨gb141, 2, none⟩ = some (.int .i64 ((rd_T33 t126 x9_3).f2)) := (blk_cell BK141.out 2).trans rfl
                                                  have hfz61_0 := blk_frozen BK141.out 0
                                                  have hfz61_1 := blk_frozen BK141.out 1
                                                  have hfz61_2 := blk_frozen BK141.out 2
                                                  have hcz62_0 : w44.cell? ⟨gb142, 0, none⟩ = some (.int .i64 ((rd_T33 t126 x11_4).f0)) := (blk_cell BK142.out 0).trans rfl
                                                  have hcz62_1 : w44.cell? ⟨gb142, 1, none⟩ = some (.int .i64 ((rd_T33 t126 x11_4).f1)) := (blk_cell BK142.out 1).trans rfl
                                                  have hcz62_2 : w44.cell? ⟨gb142, 2, none⟩ = some (.int .i64 ((rd_T33 t126 x11_4).f2)) := (blk_cell BK142.out 2).trans rfl
                                                  have hfz62_0 := blk_frozen BK142.out 0
                                                  have hfz62_1 := blk_frozen BK142.out 1
                                                  have hfz62_2 := blk_frozen BK142.out 2
                                                  try go_wp2
                                                  go_roundg k4
                                                  case measure => have := HJ3.out; have := HK2.out; have := HK3.out; have := HK4.out; omega
                                                  case rel => exact ⟨(decide (((rd_T33 t126 x11_4).f1) < (wrap64 (((rd_T33 t126 x9_3).f1) + (ji28))))), (wrap64 (x11_4 + 1)), (by first | rfl | (simp; done) | (simp only [← hji28] <;> (first | rfl | simp)) | (simp [*]; done)), (by first | rfl | (simp; done) | (simp [*]; done)), H', ⟨by have := HJ3.out; have := HK2.out; have := HK3.out; have := HK4.out; omega⟩, ⟨by (with_reducible repeat (first | apply Kd.R_alloc | apply Kd.R_drewN | apply Kd.R_drew)); exact Kd.R_mono HO_3.out (fun _ hk => trivial)⟩, ⟨by (with_reducible repeat (first | apply Kd.R_alloc | apply Kd.R_drewN | apply Kd.R_drew)); exact HO_4.out⟩, ⟨by (with_reducible repeat (first | apply Kd.R_alloc | apply Kd.R_drewN | apply Kd.R_drew)); exact HO_6.out⟩, ⟨by repeat (first | (with_reducible first | exact HB.out | apply below_alloc | apply pw_below_drewN | apply below_drew1 | refine below_set ?_ GE141.out | refine below_set ?_ GE142.out) | exact HB.out)⟩⟩
                                                · rw [if_neg c47] at H
                                                  have c47b0 : decide (((rd_T33 t126 x9_3).f1) < (wrap64 (((rd_T33 t126 x11_4).f1) + (ji31)))) = false := decide_eq_false c47
                                                  clear c47
                                                  have H' := Aside0.mk H
                                                  clear H
                                                  have hnb75 := NB141_142.out
                                                  have hnc75 := NB142_141.out
                                                  have hcz76_0 : w44.cell? ⟨gb141, 0, none⟩ = some (.int .i64 ((rd_T33 t126 x9_3).f0)) := (blk_cell BK141.out 0).trans rfl
                                                  have hcz76_1 : w44.cell? ⟨gb141, 1, none⟩ = some (.int .i64 ((rd_T33 t126 x9_3).f1)) := (blk_cell BK141.out 1).trans rfl
                                                  have hcz76_2 : w44.cell? ⟨gb141, 2, none⟩ = some (.int .i64 ((rd_T33 t126 x9_3).f2)) := (blk_cell BK141.out 2).trans rfl
                                                  have hfz76_0 := blk_frozen BK141.out 0
                                                  have hfz76_1 := blk_frozen BK141.out 1
                                                  have hfz76_2 := blk_frozen BK141.out 2
                                                  have hcz77_0 : w44.cell? ⟨gb142, 0, none⟩ = some (.int .i64 ((rd_T33 t126 x11_4).f0)) := (blk_cell BK142.out 0).trans rfl
                                                  have hcz77_1 : w44.cell? ⟨gb142, 1, none⟩ = some (.int .i64 ((rd_T33 t126 x11_4).f1)) := (blk_cell BK142.out 1).trans rfl
                                                  have hcz77_2 : w44.cell? ⟨gb142, 2, none⟩ = some (.int .i64 ((rd_T33 t126 x11_4).f2)) := (blk_cell BK142.out 2).trans rfl
                                                  have hfz77_0 := blk_frozen BK142.out 0
                                                  have hfz77_1 := blk_frozen BK142.out 1
                                                  have hfz77_2 := blk_frozen BK142.out 2
                                                  try go_wp2
                                                  go_roundg k4
                                                  case measure => have := HJ3.out; have := HK2.out; have := HK3.out; have := HK4.out; omega
                                                  case rel => exact ⟨(false), (wrap64 (x11_4 + 1)), (by first | rfl | (simp; done) | (simp [*]; done)), (by first | rfl | (simp; done) | (simp [*]; done)), H', ⟨by have := HJ3.out; have := HK2.out; have := HK3.out; have := HK4.out; omega⟩, ⟨by (with_reducible repeat (first | apply Kd.R_alloc | apply Kd.R_drewN | apply Kd.R_drew)); exact Kd.R_mono HO_3.out (fun _ hk => trivial)⟩, ⟨by (with_reducible repeat (first | apply Kd.R_alloc | apply Kd.R_drewN | apply Kd.R_drew)); exact HO_4.out⟩, ⟨by (with_reducible repeat (first | apply Kd.R_alloc | apply Kd.R_drewN | apply Kd.R_drew)); exact HO_6.out⟩, ⟨by repeat (first | (with_reducible first | exact HB.out | apply below_alloc | apply pw_below_drewN | apply below_drew1 | refine below_set ?_ GE141.out | refine below_set ?_ GE142.out) | exact HB.out)⟩⟩
                                              · rw [if_neg c46] at H
                                                have c46b0 : decide (((rd_T33 t126 x11_4).f0) < (wrap64 (((rd_T33 t126 x9_3).f0) + ((rd_T33 t126 x9_3).f2)))) = false := decide_eq_false c46
                                                clear c46
                                                have H' := Aside0.mk H
                                                clear H
                                                have hnb90 := NB141_142.out
                                                have hnc90 := NB142_141.out
                                                have hcz91_0 : w44.cell? ⟨gb141, 0, none⟩ = some (.int .i64 ((rd_T33 t126 x9_3).f0)) := (blk_cell BK141.out 0).trans rfl
                                                have hcz91_1 : w44.cell? ⟨gb141, 1, none⟩ = some (.int .i64 ((rd_T33 t126 x9_3).f1)) := (blk_cell BK141.out 1).trans rfl
                                                have hcz91_2 : w44.cell? ⟨gb141, 2, none⟩ = some (.int .i64 ((rd_T33 t126 x9_3).f2)) := (blk_cell BK141.out 2).trans rfl
                                                have hfz91_0 := blk_frozen BK141.out 0
                                                have hfz91_1 := blk_frozen BK141.out 1
                                                have hfz91_2 := blk_frozen BK141.out 2
                                                have hcz92_0 : w44.cell? ⟨gb142, 0, none⟩ = some (.int .i64 ((rd_T33 t126 x11_4).f0)) := (blk_cell BK142.out 0).trans rfl
                                                have hcz92_1 : w44.cell? ⟨gb142, 1, none⟩ = some (.int .i64 ((rd_T33 t126 x11_4).f1)) := (blk_cell BK142.out 1).trans rfl
                                                have hcz92_2 : w44.cell? ⟨gb142, 2, none⟩ = some (.int .i64 ((rd_T33 t126 x11_4).f2)) := (blk_cell BK142.out 2).trans rfl
                                                have hfz92_0 := blk_frozen BK142.out 0
                                                have hfz92_1 := blk_frozen BK142.out 1
                                                have hfz92_2 := blk_frozen BK142.out 2
                                                try go_wp2
                                                go_roundg k4
                                                case measure => have := HJ3.out; have := HK2.out; have := HK3.out; have := HK4.out; omega
                                                case rel => exact ⟨(false), (wrap64 (x11_4 + 1)), (by first | rfl | (simp; done) | (simp [*]; done)), (by first | rfl | (simp; done) | (simp [*]; done)), H', ⟨by have := HJ3.out; have := HK2.out; have := HK3.out; have := HK4.out; omega⟩, ⟨by (with_reducible repeat (first | apply Kd.R_alloc | apply Kd.R_drewN | apply Kd.R_drew)); exact Kd.R_mono HO_3.out (fun _ hk => trivial)⟩, ⟨by (with_reducible repeat (first | apply Kd.R_alloc | apply Kd.R_drewN | apply Kd.R_drew)); exact HO_4.out⟩, ⟨by (with_reducible repeat (first | apply Kd.R_alloc | apply Kd.R_drewN | apply Kd.R_drew)); exact HO_6.out⟩, ⟨by repeat (first | (with_reducible first | exact HB.out | apply below_alloc | apply pw_below_drewN | apply below_drew1 | refine below_set ?_ GE141.out | refine below_set ?_ GE142.out) | exact HB.out)⟩⟩
                                            · rw [if_neg c45] at H
                                              have c45b0 : decide (((rd_T33 t126 x9_3).f0) < (wrap64 (((rd_T33 t126 x11_4).f0) + ((rd_T33 t126 x11_4).f2)))) = false := decide_eq_false c45
                                              clear c45
                                              have H' := Aside0.mk H
                                              clear H
                                              have hnb105 := NB141_142.out
                                              have hnc105 := NB142_141.out
                                              have hcz106_0 : w44.cell? ⟨gb141, 0, none⟩ = some (.int .i64 ((rd_T33 t126 x9_3).f0)) := (blk_cell BK141.out 0).trans rfl
                                              have hcz106_1 : w44.cell? ⟨gb141, 1, none⟩ = some (.int .i64 ((rd_T33 t126 x9_3).f1)) := (blk_cell BK141.out 1).trans rfl
                                              have hcz106_2 : w44.cell? ⟨gb141, 2, none⟩ = some (.int .i64 ((rd_T33 t126 x9_3).f2)) := (blk_cell BK141.out 2).trans rfl
                                              have hfz106_0 := blk_frozen BK141.out 0
                                              have hfz106_1 := blk_frozen BK141.out 1
                                              have hfz106_2 := blk_frozen BK141.out 2
                                              have hcz107_0 : w44.cell? ⟨gb142, 0, none⟩ = some (.int .i64 ((rd_T33 t126 x11_4).f0)) := (blk_cell BK142.out 0).trans rfl
                                              have hcz107_1 : w44.cell? ⟨gb142, 1, none⟩ = some (.int .i64 ((rd_T33 t126 x11_4).f1)) := (blk_cell BK142.out 1).trans rfl
                                              have hcz107_2 : w44.cell? ⟨gb142, 2, none⟩ = some (.int .i64 ((rd_T33 t126 x11_4).f2)) := (blk_cell BK142.out 2).trans rfl
                                              have hfz107_0 := blk_frozen BK142.out 0
                                              have hfz107_1 := blk_frozen BK142.out 1
                                              have hfz107_2 := blk_frozen BK142.out 2
                                              try go_wp2
                                              go_roundg k4
                                              case measure => have := HJ3.out; have := HK2.out; have := HK3.out; have := HK4.out; omega
                                              case rel => exact ⟨(false), (wrap64 (x11_4 + 1)), (by first | rfl | (simp; done) | (simp [*]; done)), (by first | rfl | (simp; done) | (simp [*]; done)), H', ⟨by have := HJ3.out; have := HK2.out; have := HK3.out; have := HK4.out; omega⟩, ⟨by (with_reducible repeat (first | apply Kd.R_alloc | apply Kd.R_drewN | apply Kd.R_drew)); exact Kd.R_mono HO_3.out (fun _ hk => trivial)⟩, ⟨by (with_reducible repeat (first | apply Kd.R_alloc | apply Kd.R_drewN | apply Kd.R_drew)); exact HO_4.out⟩, ⟨by (with_reducible repeat (first | apply Kd.R_alloc | apply Kd.R_drewN | apply Kd.R_drew)); exact HO_6.out⟩, ⟨by repeat (first | (with_reducible first | exact HB.out | apply below_alloc | apply pw_below_drewN | apply below_drew1 | refine below_set ?_ GE141.out | refine below_set ?_ GE142.out) | exact HB.out)⟩⟩
                                        · rw [if_neg c29] at H
                                          exact absurd H (by simp)
                                      · rw [if_neg c26] at H
                                        exact absurd H (by simp)
                                    · rw [if_neg c25] at H
                                      exact absurd H (by simp)
                                  · rw [if_neg c24] at H
                                    exact absurd H (by simp)
                                · rw [if_neg c23] at H
                                  exact absurd H (by simp)
                              · rw [if_neg c22] at H
                                exact absurd H (by simp)
                            · rw [if_neg c21] at H
                              have c21b0 : decide (x11_4 < x9_3) = false := decide_eq_false c21
                              clear c21
                              have HC108 := Aside0.mk H
                              clear H
                              go_upto_region 24 with (fail)
                              go_cut [16] (fun v16 wc => ∃ (kq : Nat) (x16_107 : Bool), v16 = .bool x16_107 ∧ Aside0 (beadlelaw22_CellsOnce.j4 kq t126 t127 x6_2 x8_3 x9_3 x10_4 x16_107 = some r) ∧ Aside0 (kq ≤ k4) ∧ Aside0 (Kd.R k33 33 wc w.heap.size (fun _ => True) (.slice Ao18 t126.length co18) t126) ∧ Aside0 (Kd.R (Kd.int .i64) 3 wc w.heap.size (fun _ => True) v131 t127) ∧ Aside0 (Kd.R k37 37 wc w.heap.size (fun _ => True) (.slice Ao19 x6_2.length co19) x6_2) ∧ Aside0 (Below w.heap.size w wc))
                              case first =>
                                have H := HC108.out
                                clear HC108
                                by_cases c109 : x8_3 < (t127.length : Int)
                                · rw [if_pos c109] at H
                                  have c109b0 : decide (x8_3 < (t127.length : Int)) = true := decide_eq_true c109
                                  clear c109
                                  (first | rw [c109b0] | (simp only [i64_w, i32_w]; rw [c109b0]) | skip)
                                  by_cases c110 : 0 ≤ x8_3
                                  · rw [if_pos c110] at H
                                    have c110b0 : decide (0 ≤ x8_3) = true := decide_eq_true c110
                                    clear c110
                                    have H' := Aside0.mk H
                                    clear H
                                    obtain ⟨Ao111, co111, eo111⟩ := Kd.R_slice HO_4.out
                                    subst eo111
                                    have p145 : 0 ≤ (x8_3 : Int) := of_decide_eq_true (by first | (with_reducible assumption) | assumption)
                                    have q145 : x8_3 < (t127.length : Int) := of_decide_eq_true (by first | (with_reducible assumption) | assumption)
                                    obtain ⟨ad145, e145, hx145_0⟩ := Kd.at_int (Kd.R_reads' HO_4.out).2.2 x8_3 p145 q145
                                    cases e145
                                    replace p145 := eq_true p145
                                    replace q145 := eq_true q145
                                    go_wp2
                                    go_meet
                                    case rel => exact ⟨_, (((rd t127 x8_3) == x9_3)), (by first | rfl | (simp; done) | (simp [*]; done)), H', ⟨by have := HJ3.out; have := HK2.out; have := HK3.out; have := HK4.out; first | omega | exact Nat.le_refl _⟩, ⟨by (with_reducible repeat (first | apply Kd.R_alloc | apply Kd.R_drewN | apply Kd.R_drew)); exact HO_3.out⟩, ⟨by (with_reducible repeat (first | apply Kd.R_alloc | apply Kd.R_drewN | apply Kd.R_drew)); exact HO_4.out⟩, ⟨by (with_reducible repeat (first | apply Kd.R_alloc | apply Kd.R_drewN | apply Kd.R_drew)); exact HO_6.out⟩, ⟨by repeat (first | (with_reducible first | exact HB.out | apply below_alloc | apply pw_below_drewN | apply below_drew1) | exact HB.out)⟩⟩
                                  · rw [if_neg c110] at H
                                    exact absurd H (by simp)
                                · rw [if_neg c109] at H
                                  have c109b0 : decide (x8_3 < (t127.length : Int)) = false := decide_eq_false c109
                                  clear c109
                                  (first | rw [c109b0] | (simp only [i64_w, i32_w]; rw [c109b0]) | skip)
                                  have H' := Aside0.mk H
                                  clear H
                                  obtain ⟨Ao112, co112, eo112⟩ := Kd.R_slice HO_4.out
                                  subst eo112
                                  go_wp2
                                  go_meet
                                  case rel => exact ⟨_, (false), (by first | rfl | (simp; done) | (simp [*]; done)), H', ⟨by have := HJ3.out; have := HK2.out; have := HK3.out; have := HK4.out; first | omega | exact Nat.le_refl _⟩, ⟨by (with_reducible repeat (first | apply Kd.R_alloc | apply Kd.R_drewN | apply Kd.R_drew)); exact HO_3.out⟩, ⟨by (with_reducible repeat (first | apply Kd.R_alloc | apply Kd.R_drewN | apply Kd.R_drew)); exact HO_4.out⟩, ⟨by (with_reducible repeat (first | apply Kd.R_alloc | apply Kd.R_drewN | apply Kd.R_drew)); exact HO_6.out⟩, ⟨by repeat (first | (with_reducible first | exact HB.out | apply below_alloc | apply pw_below_drewN | apply below_drew1) | exact HB.out)⟩⟩
                              case rest =>
                                clear HC108
                                try clear c1
                                try clear p1
                                try clear q1
                                try clear hx1
                                try clear c2
                                try clear p2
                                try clear c4
                                try clear p6
                                try clear c10
                                try clear c11
                                try clear p13
                                try clear q13
                                try clear hx13
                                try clear p14
                                try clear q14
                                try clear hx14
                                try clear c21
                                try clear c21b0
                                try clear c22
                                try clear c23
                                try clear c24
                                try clear c25
                                try clear c26
                                try clear c29
                                try clear c45
                                try clear c45b0
                                try clear p64
                                try clear c105
                                try clear c109
                                try clear c109b0
                                try clear c110
                                try clear c110b0
                                try clear hcz106_0
                                try clear hcz106_1
                                try clear hcz106_2
                                try clear hcz107_0
                                try clear hcz107_1
                                try clear hcz107_2
                                try clear hfz106_0
                                try clear hfz106_1
                                try clear hfz106_2
                                try clear hfz107_0
                                try clear hfz107_1
                                try clear hfz107_2
                                try clear hx139_0
                                try clear hx139_1
                                try clear hx139_2
                                try clear hx140_0
                                try clear hx140_1
                                try clear hx140_2
                                try clear hx143_0
                                try clear hx143_1
                                try clear hx144_0
                                try clear hx144_1
                                try clear hx145_0
                                try clear p139
                                try clear p140
                                try clear p143
                                try clear p144
                                try clear p145
                                try clear q139
                                try clear q140
                                try clear q143
                                try clear q144
                                try clear q145
                                obtain ⟨kq, x16_107, rfl, HA, HJ107, HO_3, HO_4, HO_6, HB⟩ := hcut
                                cases kq with
                                | zero => exact absurd HA.out (by simp [beadlelaw22_CellsOnce.j4])
                                | succ kj107 =>
                                  have H := HA.out
                                  clear HA
                                  simp only [beadlelaw22_CellsOnce.j4] at H
                                  by_cases c113 : x16_107 = true
                                  · subst c113
                                    have H1 : (if (true != x10_4) = true then (some false) else (if 0 ≤ x9_3 then (if x9_3 < (t126.length : Int) then (if ((rd_T33 t126 x9_3).f2) < 1 then (some false) else (beadlelaw22_CellsOnce.l1 kj107 t126 t127 x6_2 (wrap64 (x8_3 + 1)) (wrap64 (x9_3 + 1)))) else (none)) else (none))) = some r := by rw [if_pos rfl] at H; exact H
                                    clear H
                                    have H := H1
                                    clear H1
                                    by_cases c114 : (true != x10_4) = true
                                    · rw [if_pos c114] at H
                                      have c114b0 : (true != x10_4) = true := c114
                                      (try (have c114b1 : decide (true = x10_4) = false := by simpa using c114))
                                      (try (have c114b2 : (true == x10_4) = false := by simpa using c114))
                                      (try (have c114b3 : ¬ (true = x10_4) := by simpa using c114))
                                      clear c114
                                      obtain rfl := Option.some.inj H
                                      go_wp2
                                      go_ret
                                      exact ⟨by first | rfl | (simp [errW_none, errW_some] <;> rfl) | (simp [*, errW_none, errW_some] <;> rfl), by repeat (first | (with_reducible first | exact HB.out | apply below_alloc | apply pw_below_drewN | apply below_drew1) | exact HB.out)⟩
                                    · rw [if_neg c114] at H
                                      have c114b0 : (true != x10_4) = false := by simpa using c114
                                      (try (have c114b1 : decide (true = x10_4) = true := by simpa using c114))
                                      (try (have c114b2 : (true == x10_4) = true := by simpa using c114))
                                      clear c114
                                      by_cases c115 : 0 ≤ x9_3
                                      · rw [if_pos c115] at H
                                        have c115b0 : decide (0 ≤ x9_3) = true := decide_eq_true c115
                                        clear c115
                                        by_cases c116 : x9_3 < (t126.length : Int)
                                        · rw [if_pos c116] at H
                                          have c116b0 : decide (x9_3 < (t126.length : Int)) = true := decide_eq_true c116
                                          clear c116
                                          by_cases c117 : ((rd_T33 t126 x9_3).f2) < 1
                                          · rw [if_pos c117] at H
                                            have c117b0 : decide (((rd_T33 t126 x9_3).f2) < 1) = true := decide_eq_true c117
                                            clear c117
                                            obtain rfl := Option.some.inj H
                                            have p146 : 0 ≤ (x9_3 : Int) := of_decide_eq_true (by first | (with_reducible assumption) | assumption)
                                            have q146 : x9_3 < (t126.length : Int) := of_decide_eq_true (by first | (with_reducible assumption) | assumption)
                                            obtain ⟨ad146, e146, hx146_0, hx146_1, hx146_2⟩ := at_T33 (Kd.R_reads' HO_3.out).2.2 x9_3 p146 q146
                                            cases e146
                                            replace p146 := eq_true p146
                                            replace q146 := eq_true q146
                                            go_wp2
                                            go_ret
                                            exact ⟨by first | rfl | (simp [errW_none, errW_some] <;> rfl) | (simp [*, errW_none, errW_some] <;> rfl), by repeat (first | (with_reducible first | exact HB.out | apply below_alloc | apply pw_below_drewN | apply below_drew1) | exact HB.out)⟩
                                          · rw [if_neg c117] at H
                                            have c117b0 : decide (((rd_T33 t126 x9_3).f2) < 1) = false := decide_eq_false c117
                                            clear c117
                                            have H' := Aside0.mk H
                                            clear H
                                            have p146 : 0 ≤ (x9_3 : Int) := of_decide_eq_true (by first | (with_reducible assumption) | assumption)
                                            have q146 : x9_3 < (t126.length : Int) := of_decide_eq_true (by first | (with_reducible assumption) | assumption)
                                            obtain ⟨ad146, e146, hx146_0, hx146_1, hx146_2⟩ := at_T33 (Kd.R_reads' HO_3.out).2.2 x9_3 p146 q146
                                            cases e146
                                            replace p146 := eq_true p146
                                            replace q146 := eq_true q146
                                            go_wp2
                                            go_roundg kj107
                                            case measure => have := HJ3.out; have := HK2.out; have := HK3.out; have := HK4.out; have := HJ107.out; omega
                                            case rel => exact ⟨(wrap64 (x8_3 + 1)), (wrap64 (x9_3 + 1)), (by first | rfl | (simp; done) | (simp [*]; done)), (by first | rfl | (simp; done) | (simp [*]; done)), H', ⟨by have := HJ3.out; have := HK2.out; have := HK3.out; have := HK4.out; have := HJ107.out; omega⟩, ⟨by (with_reducible repeat (first | apply Kd.R_alloc | apply Kd.R_drewN | apply Kd.R_drew)); exact HO_3.out⟩, ⟨by (with_reducible repeat (first | apply Kd.R_alloc | apply Kd.R_drewN | apply Kd.R_drew)); exact HO_4.out⟩, ⟨by (with_reducible repeat (first | apply Kd.R_alloc | apply Kd.R_drewN | apply Kd.R_drew)); exact HO_6.out⟩, ⟨by repeat (first | (with_reducible first | exact HB.out | apply below_alloc | apply pw_below_drewN | apply below_drew1) | exact HB.out)⟩⟩
                                        · rw [if_neg c116] at H
                                          exact absurd H (by simp)
                                      · rw [if_neg c115] at H
                                        exact absurd H (by simp)
                                  · replace c113 := Bool.eq_false_iff.mpr c113
                                    subst c113
                                    have H1 : (if (false != x10_4) = true then (some false) else (if 0 ≤ x9_3 then (if x9_3 < (t126.length : Int) then (if ((rd_T33 t126 x9_3).f2) < 1 then (some false) else (beadlelaw22_CellsOnce.l1 kj107 t126 t127 x6_2 x8_3 (wrap64 (x9_3 + 1)))) else (none)) else (none))) = some r := by rw [if_neg (show ¬ (false = true) by decide)] at H; exact H
                                    clear H
                                    have H := H1
                                    clear H1
                                    by_cases c118 : (false != x10_4) = true
                                    · rw [if_pos c118] at H
                                      have c118b0 : (false != x10_4) = true := c118
                                      (try (have c118b1 : decide (false = x10_4) = false := by simpa using c118))
                                      (try (have c118b2 : (false == x10_4) = false := by simpa using c118))
                                      (try (have c118b3 : ¬ (false = x10_4) := by simpa using c118))
                                      clear c118
                                      obtain rfl := Option.some.inj H
                                      go_wp2
                                      go_ret
                                      exact ⟨by first | rfl | (simp [errW_none, errW_some] <;> rfl) | (simp [*, errW_none, errW_some] <;> rfl), by repeat (first | (with_reducible first | exact HB.out | apply below_alloc | apply pw_below_drewN | apply below_drew1) | exact HB.out)⟩
                                    · rw [if_neg c118] at H
                                      have c118b0 : (false != x10_4) = false := by simpa using c118
                                      (try (have c118b1 : decide (false = x10_4) = true := by simpa using c118))
                                      (try (have c118b2 : (false == x10_4) = true := by simpa using c118))
                                      clear c118
                                      by_cases c119 : 0 ≤ x9_3
                                      · rw [if_pos c119] at H
                                        have c119b0 : decide (0 ≤ x9_3) = true := decide_eq_true c119
                                        clear c119
                                        by_cases c120 : x9_3 < (t126.length : Int)
                                        · rw [if_pos c120] at H
                                          have c120b0 : decide (x9_3 < (t126.length : Int)) = true := decide_eq_true c120
                                          clear c120
                                          by_cases c121 : ((rd_T33 t126 x9_3).f2) < 1
                                          · rw [if_pos c121] at H
                                            have c121b0 : decide (((rd_T33 t126 x9_3).f2) < 1) = true := decide_eq_true c121
                                            clear c121
                                            obtain rfl := Option.some.inj H
                                            have p147 : 0 ≤ (x9_3 : Int) := of_decide_eq_true (by first | (with_reducible assumption) | assumption)
                                            have q147 : x9_3 < (t126.length : Int) := of_decide_eq_true (by first | (with_reducible assumption) | assumption)
                                            obtain ⟨ad147, e147, hx147_0, hx147_1, hx147_2⟩ := at_T33 (Kd.R_reads' HO_3.out).2.2 x9_3 p147 q147
                                            cases e147
                                            replace p147 := eq_true p147
                                            replace q147 := eq_true q147
                                            go_wp2
                                            go_ret
                                            exact ⟨by first | rfl | (simp [errW_none, errW_some] <;> rfl) | (simp [*, errW_none, errW_some] <;> rfl), by repeat (first | (with_reducible first | exact HB.out | apply below_alloc | apply pw_below_drewN | apply below_drew1) | exact HB.out)⟩
                                          · rw [if_neg c121] at H
                                            have c121b0 : decide (((rd_T33 t126 x9_3).f2) < 1) = false := decide_eq_false c121
                                            clear c121
                                            have H' := Aside0.mk H
                                            clear H
                                            have p147 : 0 ≤ (x9_3 : Int) := of_decide_eq_true (by first | (with_reducible assumption) | assumption)
                                            have q147 : x9_3 < (t126.length : Int) := of_decide_eq_true (by first | (with_reducible assumption) | assumption)
                                            obtain ⟨ad147, e147, hx147_0, hx147_1, hx147_2⟩ := at_T33 (Kd.R_reads' HO_3.out).2.2 x9_3 p147 q147
                                            cases e147
                                            replace p147 := eq_true p147
                                            replace q147 := eq_true q147
                                            go_wp2
                                            go_roundg kj107
                                            case measure => have := HJ3.out; have := HK2.out; have := HK3.out; have := HK4.out; have := HJ107.out; omega
                                            case rel => exact ⟨(x8_3), (wrap64 (x9_3 + 1)), (by first | rfl | (simp; done) | (simp [*]; done)), (by first | rfl | (simp; done) | (simp [*]; done)), H', ⟨by have := HJ3.out; have := HK2.out; have := HK3.out; have := HK4.out; have := HJ107.out; omega⟩, ⟨by (with_reducible repeat (first | apply Kd.R_alloc | apply Kd.R_drewN | apply Kd.R_drew)); exact HO_3.out⟩, ⟨by (with_reducible repeat (first | apply Kd.R_alloc | apply Kd.R_drewN | apply Kd.R_drew)); exact HO_4.out⟩, ⟨by (with_reducible repeat (first | apply Kd.R_alloc | apply Kd.R_drewN | apply Kd.R_drew)); exact HO_6.out⟩, ⟨by repeat (first | (with_reducible first | exact HB.out | apply below_alloc | apply pw_below_drewN | apply below_drew1) | exact HB.out)⟩⟩
                                        · rw [if_neg c120] at H
                                          exact absurd H (by simp)
                                      · rw [if_neg c119] at H
                                        exact absurd H (by simp)
                      · rw [if_neg c20] at H
                        have c20b0 : decide (x9_3 < (t126.length : Int)) = false := decide_eq_false c20
                        clear c20
                        obtain rfl := Option.some.inj H
                        obtain ⟨Ao122, co122, eo122⟩ := Kd.R_slice HO_4.out
                        subst eo122
                        go_wp2
                        go_ret
                        exact ⟨by first | rfl | (simp [errW_none, errW_some] <;> rfl) | (simp [*, errW_none, errW_some] <;> rfl), by repeat (first | (with_reducible first | exact HB.out | apply below_alloc | apply pw_below_drewN | apply below_drew1) | exact HB.out)⟩
  · replace c3 := Bool.eq_false_iff.mpr c3
    subst c3
    have H1 : (some false) = some r := by rw [if_neg (show ¬ (false = true) by decide)] at H; exact H
    clear H
    have H := H1
    clear H1
    obtain rfl := Option.some.inj H
    go_enter Try.func4, Try.ntmps4
    go_wp2_with (first | ((with_reducible refine gate_callee (f := 7) rfl ?_); refine goesL_ (some 17) rfl rfl Try.func7 (by kernel_rfl) rfl #[] rfl (by (try simp only [List.map_toArray, List.map_cons, List.map_nil]); first | done | rfl | (simp only [List.length_drop, List.length_take]; rfl)) ?_; (with_reducible refine (beadlelaw22_speaks.calls  false _ A2.out).mono ?_); rintro e w123 ⟨rfl, hb⟩; refine ⟨_, rfl, ?_⟩; have n0_ := Aside0.mk (below_step (by repeat (first | (with_reducible first | exact HB.out | apply below_alloc | apply pw_below_drewN | apply below_drew1) | exact HB.out)) hb); clear HB; have HB := n0_; clear n0_; (try clear hb); (try clear hb2); (try clear hk); (try clear hi)))
    go_ret
    exact ⟨by first | rfl | (simp [errW_none, errW_some] <;> rfl) | (simp [*, errW_none, errW_some] <;> rfl), by repeat (first | (with_reducible first | exact HB.out | apply below_alloc | apply pw_below_drewN | apply below_drew1) | exact HB.out)⟩

end Go.Proofs.Ytdekcbpngbgjmaa.PC
