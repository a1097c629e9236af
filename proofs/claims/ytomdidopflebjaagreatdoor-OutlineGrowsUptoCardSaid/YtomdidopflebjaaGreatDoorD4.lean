/- Merged by a program of this session out of its own texts: HMay, HPut, HWrite, HNew, HRMay, HRTree, HRMake, HRLay, HRPut, HRWrite, HRWrite2, HInv, HInvR, HMadeP, HMadeA, Ptr, HMadeB. No condition beside those in each statement. -/
import Derived.OwnWalk
import Derived.Test.YtomdidopflebjaaGreatDoorD1
import Derived.Test.YtomdidopflebjaaGreatDoorD2
import Derived.Test.YtomdidopflebjaaGreatDoorD3
namespace Go.Proofs.YtomdidopflebjaaGreatDoor.PM
open Go.RowKit Go.Proofs.YtomdidopflebjaaGreatDoorW.PrintWords Go.Proofs.YtomdidopflebjaaGreatDoorW.PrintLast Go.Proofs.YtomdidopflebjaaGreatDoorW.PrintMore
attribute [local go_sem] max2_int min2_int max_two min_two max_three min_three max_four min_four   -- for this text's walks alone
set_option linter.unusedVariables false
set_option linter.unusedSimpArgs false
def dom_Tree_holds.f (l0 : List (S113)) (a1 : Int) : Option (Bool) := (dom_Tree_there.f l0 a1).bind fun t514 => (if t514 = true then (if 0 < (l0.length : Int) then (if 0 ≤ a1 then (if a1 < (((rd_T113 l0 0).f0).length : Int) then (if ((rd_T110 ((rd_T113 l0 0).f0) a1).f0.f0) = 0 then (some true) else (some (((rd_T110 ((rd_T113 l0 0).f0) a1).f0.f0) == 2))) else (none)) else (none)) else (none)) else (some false))
set_option maxHeartbeats 8000000 in
set_option maxRecDepth 100000 in
theorem dom_Tree_holds.calls (A0 : Option Addr) (c0 : Nat) (l0 : List (S113)) (a1 : Int) (r : Bool) (w : World) (hr0 : Kd.C k113 w A0 l0.length l0) (hc0 : l0.length ≤ c0 ∧ (l0 = [] → A0 = none)) (h : dom_Tree_holds.f l0 a1 = some r) :
    Calls Tryz.prog 85 #[.pointer A0, .int .i64 a1] w fun e w' => e = .returned (.bool r) ∧ Drawn0 w w' := by
  have HR0 := Aside0.mk hr0
  have HC0 := Aside0.mk hc0
  clear hr0 hc0
  have H : ((dom_Tree_there.f l0 a1).bind fun t514 => (if t514 = true then (if 0 < (l0.length : Int) then (if 0 ≤ a1 then (if a1 < (((rd_T113 l0 0).f0).length : Int) then (if ((rd_T110 ((rd_T113 l0 0).f0) a1).f0.f0) = 0 then (some true) else (some (((rd_T110 ((rd_T113 l0 0).f0) a1).f0.f0) == 2))) else (none)) else (none)) else (none)) else (some false))) = some r := h
  clear h
  replace H := Option.bind_eq_some_iff.mp H
  obtain ⟨t514, A30, H⟩ := H
  replace H : (if t514 = true then (if 0 < (l0.length : Int) then (if 0 ≤ a1 then (if a1 < (((rd_T113 l0 0).f0).length : Int) then (if ((rd_T110 ((rd_T113 l0 0).f0) a1).f0.f0) = 0 then (some true) else (some (((rd_T110 ((rd_T113 l0 0).f0) a1).f0.f0) == 2))) else (none)) else (none)) else (none)) else (some false)) = some r := H
  have A3 := Aside0.mk A30
  clear A30
  by_cases c4 : t514 = true
  · subst c4
    have H1 : (if 0 < (l0.length : Int) then (if 0 ≤ a1 then (if a1 < (((rd_T113 l0 0).f0).length : Int) then (if ((rd_T110 ((rd_T113 l0 0).f0) a1).f0.f0) = 0 then (some true) else (some (((rd_T110 ((rd_T113 l0 0).f0) a1).f0.f0) == 2))) else (none)) else (none)) else (none)) = some r := by rw [if_pos rfl] at H; exact H
    clear H
    have H := H1
    clear H1
    by_cases c5 : 0 < (l0.length : Int)
    · rw [if_pos c5] at H
      have c5b0 : decide (0 < (l0.length : Int)) = true := decide_eq_true c5
      have c5b1 : decide (0 < l0.length) = true := decide_eq_true (by omega)
      clear c5
      by_cases c6 : 0 ≤ a1
      · rw [if_pos c6] at H
        have c6b0 : decide (0 ≤ a1) = true := decide_eq_true c6
        clear c6
        by_cases c7 : a1 < (((rd_T113 l0 0).f0).length : Int)
        · rw [if_pos c7] at H
          have c7b0 : decide (a1 < (((rd_T113 l0 0).f0).length : Int)) = true := decide_eq_true c7
          clear c7
          by_cases c8 : ((rd_T110 ((rd_T113 l0 0).f0) a1).f0.f0) = 0
          · rw [if_pos c8] at H
            have c8b0 : (((rd_T110 ((rd_T113 l0 0).f0) a1).f0.f0) == 0) = true := beq_iff_eq.mpr c8
            have c8b1 : (((rd_T110 ((rd_T113 l0 0).f0) a1).f0.f0) != 0) = false := bne_eq_false_iff_eq.mpr c8
            clear c8
            obtain rfl := Option.some.inj H
            go_enter Tryz.func85, Tryz.ntmps85
            go_wp2_with (first | ((with_reducible refine gate_callee (f := 48) rfl ?_); refine goesL_ (some 7) rfl rfl Tryz.func48 (by kernel_rfl) rfl #[.pointer A0, .int .i64 a1] rfl (by (try simp only [List.map_toArray, List.map_cons, List.map_nil]); first | done | rfl | (simp only [List.length_drop, List.length_take]; rfl)) ?_; (with_reducible refine (dom_Tree_there.calls _ l0.length l0 a1 true _ ?side1 ?side2 A3.out).mono ?_); (case side1 => repeat (first | exact HR0.out | (with_reducible refine Kd.C_alloc ?_ _) | (with_reducible refine Kd.C_drewN ?_ _) | (with_reducible refine Kd.C_drew ?_))); (case side2 => exact ⟨Nat.le_refl _, HC0.out.2⟩); rintro e w' ⟨rfl, ⟨nd, rfl⟩⟩; refine ⟨_, rfl, ?_⟩; have p515 : 0 ≤ (0 : Int) := (by omega); have q515 : 0 < (l0.length : Int) := of_decide_eq_true (by first | (with_reducible assumption) | assumption); obtain ⟨ad515, A515_0, c515_0, e515, hx515_0, hl515_0, hi515_0⟩ := at_T113 HR0.out 0 p515 q515; cases e515; have qi515 : (0 < l0.length) = True := eq_true (by omega); (try rw [show ((0 : Int)).toNat = 0 from rfl] at hx515_0); (try rw [Addr.add_zero'] at hx515_0); have HR515_0 := Aside0.mk hi515_0; have HC515_0 := Aside0.mk hl515_0; clear hi515_0 hl515_0; replace p515 := eq_true p515; replace q515 := eq_true q515; have p516 : 0 ≤ (0 : Int) := (by omega); have q516 : 0 < (l0.length : Int) := of_decide_eq_true (by first | (with_reducible assumption) | assumption); obtain ⟨ad516, A516_0, c516_0, e516, hx516_0, hl516_0, hi516_0⟩ := at_T113 HR0.out 0 p516 q516; obtain rfl : ad515 = ad516 := (by injection e516); have qi516 : (0 < l0.length) = True := eq_true (by omega); (try rw [show ((0 : Int)).toNat = 0 from rfl] at hx516_0); (try rw [Addr.add_zero'] at hx516_0); have HR516_0 := Aside0.mk hi516_0; have HC516_0 := Aside0.mk hl516_0; clear hi516_0 hl516_0; replace p516 := eq_true p516; replace q516 := eq_true q516; have ea_ := Option.some.inj (hx515_0.symm.trans hx516_0); injection ea_ with ea_ en_ ec_; subst ea_; subst ec_; clear en_; have p517 : 0 ≤ (a1 : Int) := of_decide_eq_true (by first | (with_reducible assumption) | assumption); have q517 : a1 < (((rd_T113 l0 0).f0).length : Int) := of_decide_eq_true (by first | (with_reducible assumption) | assumption); obtain ⟨ad517, A517_4, c517_4, e517, hx517_0, hx517_1, hx517_2, hx517_3, hx517_4, hx517_5, hx517_6, hx517_7, hx517_8, hx517_9, hl517_4, hi517_4⟩ := at_T110 HR516_0.out a1 p517 q517; cases e517; have HR517_4 := Aside0.mk hi517_4; have HC517_4 := Aside0.mk hl517_4; clear hi517_4 hl517_4; replace p517 := eq_true p517; replace q517 := eq_true q517))
            go_ret
            exact ⟨by first | rfl | (simp; done) | (simp [*]; done), by repeat (first | exact Drawn0.refl _ | apply Drawn0.step)⟩
          · rw [if_neg c8] at H
            have c8b0 : (((rd_T110 ((rd_T113 l0 0).f0) a1).f0.f0) == 0) = false := beq_eq_false_iff_ne.mpr c8
            have c8b1 : (((rd_T110 ((rd_T113 l0 0).f0) a1).f0.f0) != 0) = true := bne_iff_ne.mpr c8
            obtain rfl := Option.some.inj H
            go_enter Tryz.func85, Tryz.ntmps85
            go_wp2_with (first | ((with_reducible refine gate_callee (f := 48) rfl ?_); refine goesL_ (some 7) rfl rfl Tryz.func48 (by kernel_rfl) rfl #[.pointer A0, .int .i64 a1] rfl (by (try simp only [List.map_toArray, List.map_cons, List.map_nil]); first | done | rfl | (simp only [List.length_drop, List.length_take]; rfl)) ?_; (with_reducible refine (dom_Tree_there.calls _ l0.length l0 a1 true _ ?side1 ?side2 A3.out).mono ?_); (case side1 => repeat (first | exact HR0.out | (with_reducible refine Kd.C_alloc ?_ _) | (with_reducible refine Kd.C_drewN ?_ _) | (with_reducible refine Kd.C_drew ?_))); (case side2 => exact ⟨Nat.le_refl _, HC0.out.2⟩); rintro e w' ⟨rfl, ⟨nd, rfl⟩⟩; refine ⟨_, rfl, ?_⟩; have p515 : 0 ≤ (0 : Int) := (by omega); have q515 : 0 < (l0.length : Int) := of_decide_eq_true (by first | (with_reducible assumption) | assumption); obtain ⟨ad515, A515_0, c515_0, e515, hx515_0, hl515_0, hi515_0⟩ := at_T113 HR0.out 0 p515 q515; cases e515; have qi515 : (0 < l0.length) = True := eq_true (by omega); (try rw [show ((0 : Int)).toNat = 0 from rfl] at hx515_0); (try rw [Addr.add_zero'] at hx515_0); have HR515_0 := Aside0.mk hi515_0; have HC515_0 := Aside0.mk hl515_0; clear hi515_0 hl515_0; replace p515 := eq_true p515; replace q515 := eq_true q515; have p516 : 0 ≤ (0 : Int) := (by omega); have q516 : 0 < (l0.length : Int) := of_decide_eq_true (by first | (with_reducible assumption) | assumption); obtain ⟨ad516, A516_0, c516_0, e516, hx516_0, hl516_0, hi516_0⟩ := at_T113 HR0.out 0 p516 q516; obtain rfl : ad515 = ad516 := (by injection e516); have qi516 : (0 < l0.length) = True := eq_true (by omega); (try rw [show ((0 : Int)).toNat = 0 from rfl] at hx516_0); (try rw [Addr.add_zero'] at hx516_0); have HR516_0 := Aside0.mk hi516_0; have HC516_0 := Aside0.mk hl516_0; clear hi516_0 hl516_0; replace p516 := eq_true p516; replace q516 := eq_true q516; have ea_ := Option.some.inj (hx515_0.symm.trans hx516_0); injection ea_ with ea_ en_ ec_; subst ea_; subst ec_; clear en_; have p517 : 0 ≤ (a1 : Int) := of_decide_eq_true (by first | (with_reducible assumption) | assumption); have q517 : a1 < (((rd_T113 l0 0).f0).length : Int) := of_decide_eq_true (by first | (with_reducible assumption) | assumption); obtain ⟨ad517, A517_4, c517_4, e517, hx517_0, hx517_1, hx517_2, hx517_3, hx517_4, hx517_5, hx517_6, hx517_7, hx517_8, hx517_9, hl517_4, hi517_4⟩ := at_T110 HR516_0.out a1 p517 q517; cases e517; have HR517_4 := Aside0.mk hi517_4; have HC517_4 := Aside0.mk hl517_4; clear hi517_4 hl517_4; replace p517 := eq_true p517; replace q517 := eq_true q517; have p518 : 0 ≤ (0 : Int) := (by omega); have q518 : 0 < (l0.length : Int) := of_decide_eq_true (by first | (with_reducible assumption) | assumption); obtain ⟨ad518, A518_0, c518_0, e518, hx518_0, hl518_0, hi518_0⟩ := at_T113 HR0.out 0 p518 q518; obtain rfl : ad515 = ad518 := (by injection e518); have qi518 : (0 < l0.length) = True := eq_true (by omega); (try rw [show ((0 : Int)).toNat = 0 from rfl] at hx518_0); (try rw [Addr.add_zero'] at hx518_0); have HR518_0 := Aside0.mk hi518_0; have HC518_0 := Aside0.mk hl518_0; clear hi518_0 hl518_0; replace p518 := eq_true p518; replace q518 := eq_true q518; have ea_ := Option.some.inj (hx515_0.symm.trans hx518_0); injection ea_ with ea_ en_ ec_; subst ea_; subst ec_; clear en_; have p519 : 0 ≤ (0 : Int) := (by omega); have q519 : 0 < (l0.length : Int) := of_decide_eq_true (by first | (with_reducible assumption) | assumption); obtain ⟨ad519, A519_0, c519_0, e519, hx519_0, hl519_0, hi519_0⟩ := at_T113 HR0.out 0 p519 q519; obtain rfl : ad515 = ad519 := (by injection e519); have qi519 : (0 < l0.length) = True := eq_true (by omega); (try rw [show ((0 : Int)).toNat = 0 from rfl] at hx519_0); (try rw [Addr.add_zero'] at hx519_0); have HR519_0 := Aside0.mk hi519_0; have HC519_0 := Aside0.mk hl519_0; clear hi519_0 hl519_0; replace p519 := eq_true p519; replace q519 := eq_true q519; have ea_ := Option.some.inj (hx515_0.symm.trans hx519_0); injection ea_ with ea_ en_ ec_; subst ea_; subst ec_; clear en_; have p520 : 0 ≤ (a1 : Int) := of_decide_eq_true (by first | (with_reducible assumption) | assumption); have q520 : a1 < (((rd_T113 l0 0).f0).length : Int) := of_decide_eq_true (by first | (with_reducible assumption) | assumption); obtain ⟨ad520, A520_4, c520_4, e520, hx520_0, hx520_1, hx520_2, hx520_3, hx520_4, hx520_5, hx520_6, hx520_7, hx520_8, hx520_9, hl520_4, hi520_4⟩ := at_T110 HR519_0.out a1 p520 q520; cases e520; have HR520_4 := Aside0.mk hi520_4; have HC520_4 := Aside0.mk hl520_4; clear hi520_4 hl520_4; replace p520 := eq_true p520; replace q520 := eq_true q520))
            go_ret
            exact ⟨by first | rfl | (simp; done) | (simp [*]; done), by repeat (first | exact Drawn0.refl _ | apply Drawn0.step)⟩
        · rw [if_neg c7] at H
          exact absurd H (by simp)
      · rw [if_neg c6] at H
        exact absurd H (by simp)
    · rw [if_neg c5] at H
      exact absurd H (by simp)
  · replace c4 := Bool.eq_false_iff.mpr c4
    subst c4
    have H1 : (some false) = some r := by rw [if_neg (show ¬ (false = true) by decide)] at H; exact H
    clear H
    have H := H1
    clear H1
    obtain rfl := Option.some.inj H
    go_enter Tryz.func85, Tryz.ntmps85
    go_wp2_with (first | ((with_reducible refine gate_callee (f := 48) rfl ?_); refine goesL_ (some 7) rfl rfl Tryz.func48 (by kernel_rfl) rfl #[.pointer A0, .int .i64 a1] rfl (by (try simp only [List.map_toArray, List.map_cons, List.map_nil]); first | done | rfl | (simp only [List.length_drop, List.length_take]; rfl)) ?_; (with_reducible refine (dom_Tree_there.calls _ l0.length l0 a1 false _ ?side1 ?side2 A3.out).mono ?_); (case side1 => repeat (first | exact HR0.out | (with_reducible refine Kd.C_alloc ?_ _) | (with_reducible refine Kd.C_drewN ?_ _) | (with_reducible refine Kd.C_drew ?_))); (case side2 => exact ⟨Nat.le_refl _, HC0.out.2⟩); rintro e w' ⟨rfl, ⟨nd, rfl⟩⟩; refine ⟨_, rfl, ?_⟩))
    go_ret
    exact ⟨by first | rfl | (simp; done) | (simp [*]; done), by repeat (first | exact Drawn0.refl _ | apply Drawn0.step)⟩
def dom_Tree_may.f (l0 : List (S113)) (a1 : Int) (a2 : Int) : Option (Bool) := (dom_Tree_holds.f l0 a1).bind fun t521 => (if t521 = true then (if a2 = (-1) then (some true) else ((dom_Tree_there.f l0 a2).bind fun t522 => (if t522 = true then (if 0 < (l0.length : Int) then (if 0 ≤ a2 then (if a2 < (((rd_T113 l0 0).f0).length : Int) then (some (((rd_T110 ((rd_T113 l0 0).f0) a2).f1.f0) == a1)) else (none)) else (none)) else (none)) else (some false)))) else (some false))
set_option maxHeartbeats 8000000 in
set_option maxRecDepth 100000 in
theorem dom_Tree_may.calls (A0 : Option Addr) (c0 : Nat) (l0 : List (S113)) (a1 : Int) (a2 : Int) (r : Bool) (w : World) (hr0 : Kd.C k113 w A0 l0.length l0) (hc0 : l0.length ≤ c0 ∧ (l0 = [] → A0 = none)) (h : dom_Tree_may.f l0 a1 a2 = some r) :
    Calls Tryz.prog 49 #[.pointer A0, .int .i64 a1, .int .i64 a2] w fun e w' => e = .returned (.bool r) ∧ Drawn0 w w' := by
  have HR0 := Aside0.mk hr0
  have HC0 := Aside0.mk hc0
  clear hr0 hc0
  have H : ((dom_Tree_holds.f l0 a1).bind fun t521 => (if t521 = true then (if a2 = (-1) then (some true) else ((dom_Tree_there.f l0 a2).bind fun t522 => (if t522 = true then (if 0 < (l0.length : Int) then (if 0 ≤ a2 then (if a2 < (((rd_T113 l0 0).f0).length : Int) then (some (((rd_T110 ((rd_T113 l0 0).f0) a2).f1.f0) == a1)) else (none)) else (none)) else (none)) else (some false)))) else (some false))) = some r := h
  clear h
  replace H := Option.bind_eq_some_iff.mp H
  obtain ⟨t521, A40, H⟩ := H
  replace H : (if t521 = true then (if a2 = (-1) then (some true) else ((dom_Tree_there.f l0 a2).bind fun t522 => (if t522 = true then (if 0 < (l0.length : Int) then (if 0 ≤ a2 then (if a2 < (((rd_T113 l0 0).f0).length : Int) then (some (((rd_T110 ((rd_T113 l0 0).f0) a2).f1.f0) == a1)) else (none)) else (none)) else (none)) else (some false)))) else (some false)) = some r := H
  have A4 := Aside0.mk A40
  clear A40
  by_cases c5 : t521 = true
  · subst c5
    have H1 : (if a2 = (-1) then (some true) else ((dom_Tree_there.f l0 a2).bind fun t522 => (if t522 = true then (if 0 < (l0.length : Int) then (if 0 ≤ a2 then (if a2 < (((rd_T113 l0 0).f0).length : Int) then (some (((rd_T110 ((rd_T113 l0 0).f0) a2).f1.f0) == a1)) else (none)) else (none)) else (none)) else (some false)))) = some r := by rw [if_pos rfl] at H; exact H
    clear H
    have H := H1
    clear H1
    by_cases c6 : a2 = (-1)
    · rw [if_pos c6] at H
      have c6b0 : (a2 == (-1)) = true := beq_iff_eq.mpr c6
      have c6b1 : (a2 != (-1)) = false := bne_eq_false_iff_eq.mpr c6
      clear c6
      obtain rfl := Option.some.inj H
      go_enter Tryz.func49, Tryz.ntmps49
      go_wp2_with (first | ((with_reducible refine gate_callee (f := 85) rfl ?_); refine goesL_ (some 9) rfl rfl Tryz.func85 (by kernel_rfl) rfl #[.pointer A0, .int .i64 a1] rfl (by (try simp only [List.map_toArray, List.map_cons, List.map_nil]); first | done | rfl | (simp only [List.length_drop, List.length_take]; rfl)) ?_; (with_reducible refine (dom_Tree_holds.calls _ l0.length l0 a1 true _ ?side1 ?side2 A4.out).mono ?_); (case side1 => repeat (first | exact HR0.out | (with_reducible refine Kd.C_alloc ?_ _) | (with_reducible refine Kd.C_drewN ?_ _) | (with_reducible refine Kd.C_drew ?_))); (case side2 => exact ⟨Nat.le_refl _, HC0.out.2⟩); rintro e w' ⟨rfl, ⟨nd, rfl⟩⟩; refine ⟨_, rfl, ?_⟩))
      go_ret
      exact ⟨by first | rfl | (simp; done) | (simp [*]; done), by repeat (first | exact Drawn0.refl _ | apply Drawn0.step)⟩
    · rw [if_neg c6] at H
      have c6b0 : (a2 == (-1)) = false := beq_eq_false_iff_ne.mpr c6
      have c6b1 : (a2 != (-1)) = true := bne_iff_ne.mpr c6
      replace H := Option.bind_eq_some_iff.mp H
      obtain ⟨t522, A70, H⟩ := H
      replace H : (if t522 = true then (if 0 < (l0.length : Int) then (if 0 ≤ a2 then (if a2 < (((rd_T113 l0 0).f0).length : Int) then (some (((rd_T110 ((rd_T113 l0 0).f0) a2).f1.f0) == a1)) else (none)) else (none)) else (none)) else (some false)) = some r := H
      have A7 := Aside0.mk A70
      clear A70
      by_cases c8 : t522 = true
      · subst c8
        have H1 : (if 0 < (l0.length : Int) then (if 0 ≤ a2 then (if a2 < (((rd_T113 l0 0).f0).length : Int) then (some (((rd_T110 ((rd_T113 l0 0).f0) a2).f1.f0) == a1)) else (none)) else (none)) else (none)) = some r := by rw [if_pos rfl] at H; exact H
        clear H
        have H := H1
        clear H1
        by_cases c9 : 0 < (l0.length : Int)
        · rw [if_pos c9] at H
          have c9b0 : decide (0 < (l0.length : Int)) = true := decide_eq_true c9
          have c9b1 : decide (0 < l0.length) = true := decide_eq_true (by omega)
          clear c9
          by_cases c10 : 0 ≤ a2
          · rw [if_pos c10] at H
            have c10b0 : decide (0 ≤ a2) = true := decide_eq_true c10
            clear c10
            by_cases c11 : a2 < (((rd_T113 l0 0).f0).length : Int)
            · rw [if_pos c11] at H
              have c11b0 : decide (a2 < (((rd_T113 l0 0).f0).length : Int)) = true := decide_eq_true c11
              clear c11
              obtain rfl := Option.some.inj H
              go_enter Tryz.func49, Tryz.ntmps49
              go_wp2_with (first | ((with_reducible refine gate_callee (f := 85) rfl ?_); refine goesL_ (some 9) rfl rfl Tryz.func85 (by kernel_rfl) rfl #[.pointer A0, .int .i64 a1] rfl (by (try simp only [List.map_toArray, List.map_cons, List.map_nil]); first | done | rfl | (simp only [List.length_drop, List.length_take]; rfl)) ?_; (with_reducible refine (dom_Tree_holds.calls _ l0.length l0 a1 true _ ?side1 ?side2 A4.out).mono ?_); (case side1 => repeat (first | exact HR0.out | (with_reducible refine Kd.C_alloc ?_ _) | (with_reducible refine Kd.C_drewN ?_ _) | (with_reducible refine Kd.C_drew ?_))); (case side2 => exact ⟨Nat.le_refl _, HC0.out.2⟩); rintro e w' ⟨rfl, ⟨nd, rfl⟩⟩; refine ⟨_, rfl, ?_⟩) | (go_at_call 48; (with_reducible refine (dom_Tree_there.calls _ l0.length l0 a2 true _ ?side1 ?side2 A7.out).mono ?_); (case side1 => repeat (first | exact HR0.out | (with_reducible refine Kd.C_alloc ?_ _) | (with_reducible refine Kd.C_drewN ?_ _) | (with_reducible refine Kd.C_drew ?_))); (case side2 => exact ⟨Nat.le_refl _, HC0.out.2⟩); rintro e w' ⟨rfl, ⟨nd, rfl⟩⟩; have p523 : 0 ≤ (0 : Int) := (by omega); have q523 : 0 < (l0.length : Int) := of_decide_eq_true (by first | (with_reducible assumption) | assumption); obtain ⟨ad523, A523_0, c523_0, e523, hx523_0, hl523_0, hi523_0⟩ := at_T113 HR0.out 0 p523 q523; cases e523; have qi523 : (0 < l0.length) = True := eq_true (by omega); (try rw [show ((0 : Int)).toNat = 0 from rfl] at hx523_0); (try rw [Addr.add_zero'] at hx523_0); have HR523_0 := Aside0.mk hi523_0; have HC523_0 := Aside0.mk hl523_0; clear hi523_0 hl523_0; replace p523 := eq_true p523; replace q523 := eq_true q523; have p524 : 0 ≤ (0 : Int) := (by omega); have q524 : 0 < (l0.length : Int) := of_decide_eq_true (by first | (with_reducible assumption) | assumption); obtain ⟨ad524, A524_0, c524_0, e524, hx524_0, hl524_0, hi524_0⟩ := at_T113 HR0.out 0 p524 q524; obtain rfl : ad523 = ad524 := (by injection e524); have qi524 : (0 < l0.length) = True := eq_true (by omega); (try rw [show ((0 : Int)).toNat = 0 from rfl] at hx524_0); (try rw [Addr.add_zero'] at hx524_0); have HR524_0 := Aside0.mk hi524_0; have HC524_0 := Aside0.mk hl524_0; clear hi524_0 hl524_0; replace p524 := eq_true p524; replace q524 := eq_true q524; have ea_ := Option.some.inj (hx523_0.symm.trans hx524_0); injection ea_ with ea_ en_ ec_; subst ea_; subst ec_; clear en_; have p525 : 0 ≤ (a2 : Int) := of_decide_eq_true (by first | (with_reducible assumption) | assumption); have q525 : a2 < (((rd_T113 l0 0).f0).length : Int) := of_decide_eq_true (by first | (with_reducible assumption) | assumption); obtain ⟨ad525, A525_4, c525_4, e525, hx525_0, hx525_1, hx525_2, hx525_3, hx525_4, hx525_5, hx525_6, hx525_7, hx525_8, hx525_9, hl525_4, hi525_4⟩ := at_T110 HR524_0.out a2 p525 q525; cases e525; have HR525_4 := Aside0.mk hi525_4; have HC525_4 := Aside0.mk hl525_4; clear hi525_4 hl525_4; replace p525 := eq_true p525; replace q525 := eq_true q525))
              go_ret
              exact ⟨by first | rfl | (simp; done) | (simp [*]; done), by repeat (first | exact Drawn0.refl _ | apply Drawn0.step)⟩
            · rw [if_neg c11] at H
              exact absurd H (by simp)
          · rw [if_neg c10] at H
            exact absurd H (by simp)
        · rw [if_neg c9] at H
          exact absurd H (by simp)
      · replace c8 := Bool.eq_false_iff.mpr c8
        subst c8
        have H1 : (some false) = some r := by rw [if_neg (show ¬ (false = true) by decide)] at H; exact H
        clear H
        have H := H1
        clear H1
        obtain rfl := Option.some.inj H
        go_enter Tryz.func49, Tryz.ntmps49
        go_wp2_with (first | ((with_reducible refine gate_callee (f := 85) rfl ?_); refine goesL_ (some 9) rfl rfl Tryz.func85 (by kernel_rfl) rfl #[.pointer A0, .int .i64 a1] rfl (by (try simp only [List.map_toArray, List.map_cons, List.map_nil]); first | done | rfl | (simp only [List.length_drop, List.length_take]; rfl)) ?_; (with_reducible refine (dom_Tree_holds.calls _ l0.length l0 a1 true _ ?side1 ?side2 A4.out).mono ?_); (case side1 => repeat (first | exact HR0.out | (with_reducible refine Kd.C_alloc ?_ _) | (with_reducible refine Kd.C_drewN ?_ _) | (with_reducible refine Kd.C_drew ?_))); (case side2 => exact ⟨Nat.le_refl _, HC0.out.2⟩); rintro e w' ⟨rfl, ⟨nd, rfl⟩⟩; refine ⟨_, rfl, ?_⟩) | (go_at_call 48; (with_reducible refine (dom_Tree_there.calls _ l0.length l0 a2 false _ ?side1 ?side2 A7.out).mono ?_); (case side1 => repeat (first | exact HR0.out | (with_reducible refine Kd.C_alloc ?_ _) | (with_reducible refine Kd.C_drewN ?_ _) | (with_reducible refine Kd.C_drew ?_))); (case side2 => exact ⟨Nat.le_refl _, HC0.out.2⟩); rintro e w' ⟨rfl, ⟨nd, rfl⟩⟩))
        go_ret
        exact ⟨by first | rfl | (simp; done) | (simp [*]; done), by repeat (first | exact Drawn0.refl _ | apply Drawn0.step)⟩
  · replace c5 := Bool.eq_false_iff.mpr c5
    subst c5
    have H1 : (some false) = some r := by rw [if_neg (show ¬ (false = true) by decide)] at H; exact H
    clear H
    have H := H1
    clear H1
    obtain rfl := Option.some.inj H
    go_enter Tryz.func49, Tryz.ntmps49
    go_wp2_with (first | ((with_reducible refine gate_callee (f := 85) rfl ?_); refine goesL_ (some 9) rfl rfl Tryz.func85 (by kernel_rfl) rfl #[.pointer A0, .int .i64 a1] rfl (by (try simp only [List.map_toArray, List.map_cons, List.map_nil]); first | done | rfl | (simp only [List.length_drop, List.length_take]; rfl)) ?_; (with_reducible refine (dom_Tree_holds.calls _ l0.length l0 a1 false _ ?side1 ?side2 A4.out).mono ?_); (case side1 => repeat (first | exact HR0.out | (with_reducible refine Kd.C_alloc ?_ _) | (with_reducible refine Kd.C_drewN ?_ _) | (with_reducible refine Kd.C_drew ?_))); (case side2 => exact ⟨Nat.le_refl _, HC0.out.2⟩); rintro e w' ⟨rfl, ⟨nd, rfl⟩⟩; refine ⟨_, rfl, ?_⟩))
    go_ret
    exact ⟨by first | rfl | (simp; done) | (simp [*]; done), by repeat (first | exact Drawn0.refl _ | apply Drawn0.step)⟩
end Go.Proofs.YtomdidopflebjaaGreatDoor.PM
namespace Go.Proofs.YtomdidopflebjaaGreatDoor.PM
open Go.RowKit Go.Proofs.YtomdidopflebjaaGreatDoorW.PrintWords Go.Proofs.YtomdidopflebjaaGreatDoorW.PrintLast Go.Proofs.YtomdidopflebjaaGreatDoorW.PrintMore
/-- Each node's parent is an earlier one; a last kid is a node. -/
structure WfT (T : List S110) : Prop where
  up : ∀ i : Nat, i < T.length → -1 ≤ (rd_T110 T i).f1.f0 ∧ (rd_T110 T i).f1.f0 < (i : Int)
  last : ∀ i : Nat, i < T.length → (rd_T110 T i).f1.f2 = -1 ∨ (0 ≤ (rd_T110 T i).f1.f2 ∧ (rd_T110 T i).f1.f2 < (T.length : Int))
def mayB (T : List S110) (p : Int) : Bool := decide (0 ≤ p ∧ p < (T.length : Int) ∧ ((rd_T110 T p).f0.f0 = 0 ∨ (rd_T110 T p).f0.f0 = 2))
theorem may_at (T : List S110) (p : Int) : dom_Tree_may.f [⟨T⟩] p (-1) = some (mayB T p) := by
  have h1 : (rd_T113 [⟨T⟩] 0).f0 = T := rfl
  unfold dom_Tree_may.f dom_Tree_holds.f dom_Tree_there.f mayB
  rw [h1]
  by_cases h0 : 0 ≤ p
  · by_cases h2 : p < (T.length : Int)
    · by_cases h3 : (rd_T110 T p).f0.f0 = 0
      · simp [h0, h2, h3]
      · by_cases h4 : (rd_T110 T p).f0.f0 = 2
        · simp [h0, h2, h4]
        · simp [h0, h2, h3, h4]
    · simp [h0, h2]
  · simp [h0]
theorem under_at (T : List S110) (hw : WfT T) (n : Int) (hn : 0 ≤ n) : ∀ (k : Nat) (x : Int), -1 ≤ x → x < n → x < (T.length : Int) → x + 2 ≤ (k : Int) → dom_Tree_under.l0 k [⟨T⟩] x n = some false
  | 0, x, h1, _, _, h4 => by omega
  | k + 1, x, h1, h2, h3, h4 => by
    unfold dom_Tree_under.l0
    by_cases e : x = -1
    · rw [if_pos e, e]
      congr 1
      exact beq_false_of_ne (by omega)
    · have h5 := hw.up x.toNat (by omega)
      have h6 : ((x.toNat : Nat) : Int) = x := by omega
      rw [h6] at h5
      rw [if_neg e, if_neg (by omega), if_pos (by simp), if_pos (by omega)]
      show (if x < (T.length : Int) then _ else _) = _
      rw [if_pos h3]
      exact under_at T hw n hn k (rd_T110 T x).f1.f0 h5.1 (by omega) (by omega) (by omega)
def putAt (T : List S110) (p : Int) : List S110 := if mayB T p = true ∧ p < (T.length : Int) - 1 then layLk T (T.length - 1) p.toNat else T
theorem under_self (T : List S110) (n : Int) (hn : n ≠ -1) (k : Nat) : dom_Tree_under.l0 (k + 1) [⟨T⟩] n n = some true := by
  unfold dom_Tree_under.l0
  rw [if_neg hn, if_pos rfl]
  simp
set_option maxHeartbeats 8000000 in
set_option maxRecDepth 100000 in
theorem put_any (base g : Nat) (W : World) (T : List S110) (p : Int) (hT : DomAt base W g T) (hw : WfT T) (hl : 2 ≤ T.length) (hm : T.length ≤ 1000000) (hn : (rd_T110 T ((T.length - 1 : Nat) : Int)).f1.f0 = -1) :
    Calls Tryz.prog 22 #[.pointer (some ⟨g, 0, none⟩), .int .i64 ((T.length - 1 : Nat) : Int), .int .i64 p, .int .i64 (-1)] W fun e W' => (∃ x, e = .returned (.int .i64 x)) ∧ DomAt base W' g (putAt T p) ∧ TFrame [110, 113] W W' ∧ Below base W W' := by
  obtain ⟨b, cv, hR⟩ := hT.rowOf (by omega)
  have hthere : dom_Tree_there.f [⟨T⟩] ((T.length - 1 : Nat) : Int) = some true := by
    unfold dom_Tree_there.f
    show some (if 0 < 1 then (if 0 ≤ ((T.length - 1 : Nat) : Int) then decide (((T.length - 1 : Nat) : Int) < (T.length : Int)) else false) else false) = some true
    rw [if_pos (by omega), if_pos (by omega), decide_eq_true (by omega)]
  have hmay := may_at T p
  generalize hN : T.length - 1 = N at hthere hn ⊢
  have hN0 : (0 : Int) < (N : Int) := by omega
  have hN1 : ((N : Int) == 0) = false := beq_false_of_ne (by omega)
  have hN2 : ((-1 : Int) == (N : Int)) = false := beq_false_of_ne (by omega)
  have H1 := Aside0.mk hthere
  have H2 := Aside0.mk hmay
  have HR := Aside0.mk hR
  have HW := Aside0.mk hw
  have HN := Aside0.mk hn
  have HE := Aside0.mk hN
  have HL := Aside0.mk hl
  have HM := Aside0.mk hm
  have hC : ∀ {w' : World}, Below W.heap.size W w' → Kd.C k113 w' (some ⟨g, 0, none⟩) ([⟨T⟩] : List S113).length [⟨T⟩] := fun hb => (HR.out.below hb).at.C
  have HC := Aside0.mk @hC
  clear hthere hmay hR hw hn hN hl hm hC hT
  have hbz : base ≤ W.heap.size := Nat.le_trans HR.out.low (Nat.le_of_lt (blk_lt HR.out.blk))
  cases hmb : mayB T p with
  | false =>
    rw [hmb] at H2
    go_enter Tryz.func22, Tryz.ntmps22
    go_wp2_with (first
      | (go_at_call 48; refine (dom_Tree_there.calls _ 1 [⟨T⟩] _ _ _ (HC.out (Below.refl _ _)) ⟨Nat.le_refl _, by simp⟩ H1.out).mono ?_; rintro e w1 ⟨rfl, hd⟩; have HD := Aside0.mk hd.below; clear hd)
      | (go_at_call 49; refine (dom_Tree_may.calls _ 1 [⟨T⟩] _ _ _ _ (HC.out HD.out) ⟨Nat.le_refl _, by simp⟩ H2.out).mono ?_; rintro e w2 ⟨rfl, hd⟩; have HD2 := Aside0.mk (below_step HD.out hd.below); clear hd))
    go_ret
    refine ⟨⟨_, rfl⟩, ?_, TFrame.of_below HD2.out, HD2.out.mono hbz⟩
    unfold putAt
    rw [if_neg (by simp [hmb])]
    exact (HR.out.below HD2.out).at
  | true =>
    rw [hmb] at H2
    have hmb2 := of_decide_eq_true hmb
    have HMB := Aside0.mk hmb
    have HMB2 := Aside0.mk hmb2
    have hpc : p = (N : Int) ∨ p < (N : Int) := by have := HE.out; have := HL.out; omega
    clear hmb hmb2
    rcases hpc with rfl | hlt
    · have H3 := Aside0.mk (under_self T (N : Int) (by omega) 0)
      go_enter Tryz.func22, Tryz.ntmps22
      go_wp2_with (first
      | (go_at_call 48; refine (dom_Tree_there.calls _ 1 [⟨T⟩] _ _ _ (HC.out (Below.refl _ _)) ⟨Nat.le_refl _, by simp⟩ H1.out).mono ?_; rintro e w1 ⟨rfl, hd⟩; have HD := Aside0.mk hd.below; clear hd)
      | (go_at_call 49; refine (dom_Tree_may.calls _ 1 [⟨T⟩] _ _ _ _ (HC.out HD.out) ⟨Nat.le_refl _, by simp⟩ H2.out).mono ?_; rintro e w2 ⟨rfl, hd⟩; have HD2 := Aside0.mk (below_step HD.out hd.below); clear hd)
      | (go_at_call 50; refine (dom_Tree_under.calls 1 _ 1 [⟨T⟩] _ _ _ _ (HC.out HD2.out) ⟨Nat.le_refl _, by simp⟩ H3.out).mono ?_; rintro e w3 ⟨rfl, hd⟩; have HD3 := Aside0.mk (below_step HD2.out hd.below); clear hd))
      go_ret
      refine ⟨⟨_, rfl⟩, ?_, TFrame.of_below HD3.out, HD3.out.mono hbz⟩
      unfold putAt
      rw [if_neg (fun h => by have := h.2; have := HE.out; have := HL.out; omega)]
      exact (HR.out.below HD3.out).at
    · have H3 := Aside0.mk (under_at T HW.out (N : Int) (by omega) (p.toNat + 2) p (by have := HMB2.out; omega) hlt (by have := HMB2.out; omega) (by have := HMB2.out; omega))
      have HLT := Aside0.mk hlt
      have hpn : ((p.toNat : Nat) : Int) = p := by have := HMB2.out; omega
      have HPN := Aside0.mk hpn
      have hcut := fun w' (hb : Below W.heap.size W w') => cut_none base g b cv w' T N (HR.out.below hb) (by have := HE.out; have := HL.out; omega) HN.out
      have hlay := fun w' (hb : Below W.heap.size W w') => lay_last base g b cv w' T N p.toNat (HR.out.below hb) (by have := HE.out; have := HL.out; omega) (by have := HMB2.out; omega) (by rw [hpn]; have := HW.out.last p.toNat (by have := HMB2.out; omega); rw [hpn] at this; exact this)
      rw [hpn] at hlay
      have HCUT := Aside0.mk hcut
      have HLAY := Aside0.mk hlay
      clear hlt hpn hcut hlay
      go_enter Tryz.func22, Tryz.ntmps22
      go_wp2_with (first
      | (go_at_call 48; refine (dom_Tree_there.calls _ 1 [⟨T⟩] _ _ _ (HC.out (Below.refl _ _)) ⟨Nat.le_refl _, by simp⟩ H1.out).mono ?_; rintro e w1 ⟨rfl, hd⟩; have HD := Aside0.mk hd.below; clear hd)
      | (go_at_call 49; refine (dom_Tree_may.calls _ 1 [⟨T⟩] _ _ _ _ (HC.out HD.out) ⟨Nat.le_refl _, by simp⟩ H2.out).mono ?_; rintro e w2 ⟨rfl, hd⟩; have HD2 := Aside0.mk (below_step HD.out hd.below); clear hd)
      | (go_at_call 50; refine (dom_Tree_under.calls (p.toNat + 2) _ 1 [⟨T⟩] _ _ _ _ (HC.out HD2.out) ⟨Nat.le_refl _, by simp⟩ H3.out).mono ?_; rintro e w3 ⟨rfl, hd⟩; have HD3 := Aside0.mk (below_step HD2.out hd.below); clear hd)
      | (go_at_call 51; refine (HCUT.out _ HD3.out).mono ?_; rintro e w4 ⟨rfl, hd⟩; have HD4 := Aside0.mk (below_step HD3.out hd); clear hd)
      | (go_at_call 52; refine (HLAY.out _ HD4.out).mono ?_; rintro e w5 ⟨rfl, hd, hf, hb⟩; have HD5 := Aside0.mk hd; have HF5 := Aside0.mk hf; have HB5 := Aside0.mk hb; clear hd hf hb))
      go_ret
      refine ⟨⟨_, rfl⟩, ?_, (TFrame.of_below HD4.out).trans HF5.out, Below.trans (HD4.out.mono hbz) HB5.out⟩
      unfold putAt
      rw [if_pos ⟨HMB.out, by have := HE.out; have := HL.out; have := HLT.out; omega⟩, HE.out]
      exact HD5.out.at
end Go.Proofs.YtomdidopflebjaaGreatDoor.PM
namespace Go.Proofs.YtomdidopflebjaaGreatDoor.PM
open Go.RowKit Go.Proofs.YtomdidopflebjaaGreatDoorW.PrintWords Go.Proofs.YtomdidopflebjaaGreatDoorW.PrintLast Go.Proofs.YtomdidopflebjaaGreatDoorW.PrintMore
def setData (x : S110) (d : ByteArray) : S110 := ⟨⟨x.f0.f0, x.f0.f1, x.f0.f2, d, x.f0.f4⟩, x.f1⟩
def putData (T : List S110) (i : Nat) (d : ByteArray) : List S110 := T.set i (setData (rd_T110 T i) d)
theorem DomRow.putData {base g b cv : Nat} {W : World} {T : List S110} (h : DomRow base W g b cv T) (i : Nat) (hi : i < T.length) (d : ByteArray) :
    DomRow base (W.setCell ⟨b, i * 10 + 3, none⟩ (.string d)) g b cv (putData T i d) := by
  obtain ⟨c, hcl, hM, hcc, _⟩ := Kd.R_elem h.row z110 (i : Int) (by omega) (by omega)
  obtain ⟨v4, rfl, hv4⟩ := k110_openM hM
  obtain ⟨h1, _⟩ := Kd.R_seg h.row (i : Int) (by omega) (by omega) (seg := [.string d]) (j := 3) hcl hcc (by show 3 + 1 ≤ 10; omega) (k110_mkM W base _ (setData (rd_T110 T i) d) hv4) (fun k hk => hk)
  have hl : (PM.putData T i d).length = T.length := List.length_set ..
  refine ⟨h.low, ?_, ?_⟩
  · rw [hl]
    exact blk_far h.blk h.ne (p := ⟨b, i * 10 + 3, none⟩) _
  · rw [hl]
    exact h1
/-- What Write of a character at the end of a node's kids makes of a tree. -/
def textIs (T : List S110) (p : Int) : Bool := decide ((rd_T110 T p).f1.f2 ≠ -1 ∧ (rd_T110 T (rd_T110 T p).f1.f2).f0.f0 = 3)
def newText (v at_ : Int) : S110 := ⟨⟨3, at_, ⟨#[]⟩, Utf8.encode v, []⟩, loose107⟩
def writeAt (T : List S110) (v at_ p : Int) : List S110 :=
  if mayB T p = true then
    (if textIs T p = true then putData T (rd_T110 T p).f1.f2.toNat ((rd_T110 T (rd_T110 T p).f1.f2).f0.f3 ++ Utf8.encode v)
    else layLk (T ++ [newText v at_]) T.length p.toNat)
  else T
theorem enc_low (v : Int) (h0 : 0 ≤ v) (h1 : v ≤ 127) : Utf8.encode v = ⟨#[UInt8.ofNat v.toNat]⟩ := by
  unfold Utf8.encode
  have h3 : Utf8.valid v = true := by unfold Utf8.valid; simp; omega
  have h2 : v.toNat < 128 := by omega
  simp [h3, h2]
theorem valid_low (v : Int) (h0 : 0 ≤ v) (h1 : v ≤ 127) : Lib.validRune v = true := by
  unfold Lib.validRune
  exact decide_eq_true (.inl ⟨h0, by omega⟩)
set_option maxHeartbeats 8000000 in
set_option maxRecDepth 100000 in
theorem write_no (base g : Nat) (W : World) (T : List S110) (v at_ p : Int) (hT : DomAt base W g T) (hbz : base ≤ W.heap.size) (hmb : mayB T p = false) :
    Calls Tryz.prog 26 #[.pointer (some ⟨g, 0, none⟩), .int .i64 v, .int .i64 at_, .int .i64 p, .int .i64 (-1)] W fun e W' => (∃ x, e = .returned (.int .i64 x)) ∧ DomAt base W' g (writeAt T v at_ p) ∧ TFrame [110, 113] W W' ∧ Below base W W' := by
  have hmay := may_at T p
  rw [hmb] at hmay
  have H2 := Aside0.mk hmay
  have HT := Aside0.mk hT
  have HMB := Aside0.mk hmb
  clear hmay hT hmb
  go_enter Tryz.func26, Tryz.ntmps26
  go_wp2_with (go_at_call 49; refine (dom_Tree_may.calls _ 1 [⟨T⟩] _ _ _ _ HT.out.C ⟨Nat.le_refl _, by simp⟩ H2.out).mono ?_; rintro e w2 ⟨rfl, hd⟩; have HD2 := Aside0.mk hd.below; clear hd)
  go_ret
  refine ⟨⟨_, rfl⟩, ?_, TFrame.of_below HD2.out, HD2.out.mono hbz⟩
  unfold writeAt
  rw [if_neg (by rw [HMB.out]; decide)]
  exact HT.out.below HD2.out
set_option maxHeartbeats 8000000 in
set_option maxRecDepth 100000 in
theorem write_more (base g : Nat) (W : World) (T : List S110) (v at_ p : Int) (hT : DomAt base W g T) (hw : WfT T) (hmb : mayB T p = true) (htx : textIs T p = true) (hv0 : 0 ≤ v) (hv1 : v ≤ 127) (hsz : (rd_T110 T (rd_T110 T p).f1.f2).f0.f3.size ≤ 1000000) :
    Calls Tryz.prog 26 #[.pointer (some ⟨g, 0, none⟩), .int .i64 v, .int .i64 at_, .int .i64 p, .int .i64 (-1)] W fun e W' => (∃ x, e = .returned (.int .i64 x)) ∧ DomAt base W' g (writeAt T v at_ p) ∧ TFrame [110, 113] W W' ∧ Below base W W' := by
  have hmay := may_at T p
  rw [hmb] at hmay
  obtain ⟨i0, i1, _⟩ := of_decide_eq_true hmb
  obtain ⟨t1, t2⟩ := of_decide_eq_true htx
  have hlast := hw.last p.toNat (by omega)
  have hpn : ((p.toNat : Nat) : Int) = p := by omega
  rw [hpn] at hlast
  obtain ⟨l0, l1⟩ := hlast.resolve_left t1
  obtain ⟨b, cv, hR⟩ := hT.rowOf (by omega)
  have HR := Aside0.mk hR
  have H2 := Aside0.mk hmay
  have HMB := Aside0.mk hmb
  have HTX := Aside0.mk htx
  have HPN := Aside0.mk hpn
  have hbz : base ≤ W.heap.size := Nat.le_trans HR.out.low (Nat.le_of_lt (blk_lt HR.out.blk))
  have d0 : decide (v < 0) = false := decide_eq_false (by omega)
  have d1 : decide (1114111 < v) = false := decide_eq_false (by omega)
  have d2 := valid_low v hv0 hv1
  generalize hlst : (rd_T110 T p).f1.f2 = last at t1 t2 l0 l1 hsz
  have hll : ((last.toNat : Nat) : Int) = last := by omega
  have HLL := Aside0.mk hll
  have HLST := Aside0.mk hlst
  have l2 : (last == -1) = false := beq_false_of_ne t1
  have l3 : (last.toNat : Nat) < T.length := by omega
  have HL3 := Aside0.mk l3
  have hes : (Utf8.encode v).size = 1 := by
    rw [enc_low v hv0 hv1]
    rfl
  have hsm : decide ((rd_T110 T last).f0.f3.size + (Utf8.encode v).size ≤ 9223372036854775807) = true := decide_eq_true (by omega)
  clear hmay hR hmb htx hpn hlast hlst hll l3 hT
  go_enter Tryz.func26, Tryz.ntmps26
  go_wp2_with (first
    | (go_at_call 49; refine (dom_Tree_may.calls _ 1 [⟨T⟩] _ _ _ _ HR.out.at.C ⟨Nat.le_refl _, by simp⟩ H2.out).mono ?_; rintro e w2 ⟨rfl, hd⟩; have HD2 := Aside0.mk hd.below; have HRW := Aside0.mk (HR.out.below hd.below); clear hd; have cg : w2.cell? ⟨g, 0, none⟩ = some (.slice (some ⟨b, 0, none⟩) T.length cv) := (blk_cell HRW.out.blk 0).trans rfl; have c7 := (HRW.out.lk p.toNat (by omega)).2.2.1; rw [HPN.out, HLST.out] at c7; obtain ⟨v4, _, hcl⟩ := HRW.out.cells last.toNat HL3.out; rw [HLL.out] at hcl; have c0 := hcl 0 _ rfl; have c3 := hcl 3 _ rfl; rw [Nat.add_zero] at c0; rw [t2] at c0; clear hcl; have hfr : ∀ j, w2.frozen? ⟨b, j, none⟩ = false := HRW.out.frozen)
    | (go_at_call 58; refine (Tryz.utf8_ValidRune _ _).mono ?_; rintro e w3 ⟨rfl, hd⟩; subst hd))
  go_ret
  have hput := HRW.out.putData last.toNat HL3.out ((rd_T110 T last).f0.f3 ++ Utf8.encode v)
  refine ⟨⟨_, rfl⟩, ?_, (TFrame.of_below HD2.out).trans (HRW.out.putFrame _ _), Below.trans (HD2.out.mono hbz) ((Below.refl base _).setCell HRW.out.base _)⟩
  unfold writeAt
  rw [if_pos HMB.out, if_pos HTX.out, HLST.out]
  exact hput.at
set_option maxHeartbeats 8000000 in
set_option maxRecDepth 100000 in
theorem write_new (base g : Nat) (W : World) (T : List S110) (v at_ p : Int) (hT : DomAt base W g T) (hw : WfT T) (hmb : mayB T p = true) (htx : textIs T p = false) (hv0 : 0 ≤ v) (hv1 : v ≤ 127) (hm : T.length ≤ 1000000) :
    Calls Tryz.prog 26 #[.pointer (some ⟨g, 0, none⟩), .int .i64 v, .int .i64 at_, .int .i64 p, .int .i64 (-1)] W fun e W' => (∃ x, e = .returned (.int .i64 x)) ∧ DomAt base W' g (writeAt T v at_ p) ∧ TFrame [110, 113] W W' ∧ Below base W W' := by
  have hmay := may_at T p
  rw [hmb] at hmay
  obtain ⟨i0, i1, _⟩ := of_decide_eq_true hmb
  have htx2 := of_decide_eq_false htx
  have hlast := hw.last p.toNat (by omega)
  have hpn : ((p.toNat : Nat) : Int) = p := by omega
  rw [hpn] at hlast
  obtain ⟨b, cv, hR⟩ := hT.rowOf (by omega)
  have HR := Aside0.mk hR
  have H2 := Aside0.mk hmay
  have HMB := Aside0.mk hmb
  have HTX := Aside0.mk htx
  have HPN := Aside0.mk hpn
  have HM := Aside0.mk hm
  have hbz : base ≤ W.heap.size := Nat.le_trans HR.out.low (Nat.le_of_lt (blk_lt HR.out.blk))
  have d0 : decide (v < 0) = false := decide_eq_false (by omega)
  have d1 : decide (1114111 < v) = false := decide_eq_false (by omega)
  have d2 := valid_low v hv0 hv1
  have rdT : ∀ x : Int, 0 ≤ x → x < (T.length : Int) → rd_T110 (T ++ [newText v at_]) x = rd_T110 T x := fun x h0 h1 => by
    unfold rd_T110
    rw [List.getD_eq_getElem?_getD, List.getD_eq_getElem?_getD, List.getElem?_append_left (by omega)]
  have hmake := fun w' (hb : Below W.heap.size W w') => make_any base g w' T (newText v at_).f0 none 0 (HR.out.below hb).at (Nat.le_trans hbz hb.size) ⟨rfl, by simp [newText], fun h => absurd h (by simp [newText])⟩ (Nat.le_refl _) (show (1 : Int) ≤ 3 by decide) (show (3 : Int) ≤ 4 by decide) hm (by simp [newText])
  have HMAKE := Aside0.mk hmake
  have hlay := fun w' b' cv' (hd : DomRow base w' g b' cv' (T ++ [newText v at_])) => lay_last base g b' cv' w' (T ++ [newText v at_]) T.length p.toNat hd (by simp) (by simp; omega) (by rw [hpn, rdT p i0 i1]; exact hlast.imp_right (fun h => ⟨h.1, by simp; omega⟩))
  rw [hpn] at hlay
  have HLAY := Aside0.mk hlay
  clear hmake hlay rdT
  generalize hlst : (rd_T110 T p).f1.f2 = last at htx2 hlast
  have HLST := Aside0.mk hlst
  have HTX2 := Aside0.mk htx2
  have HLAST := Aside0.mk hlast
  clear hmay hR hmb htx hpn hlst hT htx2 hlast hm
  have hend : ∀ w', DomAt base w' g (layLk (T ++ [newText v at_]) T.length p.toNat) → DomAt base w' g (writeAt T v at_ p) := fun w' h => by
    unfold writeAt
    rw [if_pos HMB.out, if_neg (by rw [HTX.out]; decide)]
    exact h
  have HEND := Aside0.mk hend
  clear hend
  by_cases hc : last = -1
  · subst hc
    go_enter Tryz.func26, Tryz.ntmps26
    go_wp2_with (first
      | (go_at_call 49; refine (dom_Tree_may.calls _ 1 [⟨T⟩] _ _ _ _ HR.out.at.C ⟨Nat.le_refl _, by simp⟩ H2.out).mono ?_; rintro e w2 ⟨rfl, hd⟩; have HD2 := Aside0.mk hd.below; have HRW := Aside0.mk (HR.out.below hd.below); clear hd; have cg : w2.cell? ⟨g, 0, none⟩ = some (.slice (some ⟨b, 0, none⟩) T.length cv) := (blk_cell HRW.out.blk 0).trans rfl; have c7 := (HRW.out.lk p.toNat (by omega)).2.2.1; rw [HPN.out, HLST.out] at c7)
      | (go_at_call 58; refine (Tryz.utf8_ValidRune _ _).mono ?_; rintro e w3 ⟨rfl, hd⟩; subst hd)
      | (go_at_call 21; refine (HMAKE.out _ HD2.out).mono ?_; rintro e w4 ⟨rfl, hd, hf, hb⟩; obtain ⟨b4, cv4, hd4⟩ := hd.rowOf (by simp); have HR4 := Aside0.mk hd4; have HF4 := Aside0.mk hf; have HB4 := Aside0.mk hb; clear hd hf hb hd4 cg c7)
      | (go_at_call 52; refine (HLAY.out _ _ _ HR4.out).mono ?_; rintro e w5 ⟨rfl, hd, hf, hb⟩; have HR5 := Aside0.mk hd; have HF5 := Aside0.mk hf; have HB5 := Aside0.mk hb; clear hd hf hb))
    go_ret
    exact ⟨⟨_, rfl⟩, HEND.out _ HR5.out.at, (TFrame.of_below HD2.out).trans (HF4.out.trans HF5.out), Below.trans (HD2.out.mono hbz) (Below.trans HB4.out HB5.out)⟩
  · obtain ⟨l0, l1⟩ := HLAST.out.resolve_left hc
    have hk : (rd_T110 T last).f0.f0 ≠ 3 := fun h => HTX2.out ⟨hc, h⟩
    have hll : ((last.toNat : Nat) : Int) = last := by omega
    have HLL := Aside0.mk hll
    have l2 : (last == -1) = false := beq_false_of_ne hc
    have l3 : (last.toNat : Nat) < T.length := by omega
    have HL3 := Aside0.mk l3
    have hk2 : ((rd_T110 T last).f0.f0 == 3) = false := beq_false_of_ne hk
    generalize hkk : (rd_T110 T last).f0.f0 = kk at hk hk2
    have HKK := Aside0.mk hkk
    clear hll l3 hkk
    go_enter Tryz.func26, Tryz.ntmps26
    go_wp2_with (first
      | (go_at_call 49; refine (dom_Tree_may.calls _ 1 [⟨T⟩] _ _ _ _ HR.out.at.C ⟨Nat.le_refl _, by simp⟩ H2.out).mono ?_; rintro e w2 ⟨rfl, hd⟩; have HD2 := Aside0.mk hd.below; have HRW := Aside0.mk (HR.out.below hd.below); clear hd; have cg : w2.cell? ⟨g, 0, none⟩ = some (.slice (some ⟨b, 0, none⟩) T.length cv) := (blk_cell HRW.out.blk 0).trans rfl; have c7 := (HRW.out.lk p.toNat (by omega)).2.2.1; rw [HPN.out, HLST.out] at c7; obtain ⟨v4, _, hcl⟩ := HRW.out.cells last.toNat HL3.out; rw [HLL.out] at hcl; have c0 := hcl 0 _ rfl; rw [Nat.add_zero, HKK.out] at c0; clear hcl)
      | (go_at_call 58; refine (Tryz.utf8_ValidRune _ _).mono ?_; rintro e w3 ⟨rfl, hd⟩; subst hd)
      | (go_at_call 21; refine (HMAKE.out _ HD2.out).mono ?_; rintro e w4 ⟨rfl, hd, hf, hb⟩; obtain ⟨b4, cv4, hd4⟩ := hd.rowOf (by simp); have HR4 := Aside0.mk hd4; have HF4 := Aside0.mk hf; have HB4 := Aside0.mk hb; clear hd hf hb hd4 cg c7 c0)
      | (go_at_call 52; refine (HLAY.out _ _ _ HR4.out).mono ?_; rintro e w5 ⟨rfl, hd, hf, hb⟩; have HR5 := Aside0.mk hd; have HF5 := Aside0.mk hf; have HB5 := Aside0.mk hb; clear hd hf hb))
    go_ret
    exact ⟨⟨_, rfl⟩, HEND.out _ HR5.out.at, (TFrame.of_below HD2.out).trans (HF4.out.trans HF5.out), Below.trans (HD2.out.mono hbz) (Below.trans HB4.out HB5.out)⟩
theorem write_any (base g : Nat) (W : World) (T : List S110) (v at_ p : Int) (hT : DomAt base W g T) (hbz : base ≤ W.heap.size) (hw : WfT T) (hv0 : 0 ≤ v) (hv1 : v ≤ 127) (hm : T.length ≤ 1000000) (hsz : ∀ i : Int, (rd_T110 T i).f0.f0 = 3 → (rd_T110 T i).f0.f3.size ≤ 1000000) :
    Calls Tryz.prog 26 #[.pointer (some ⟨g, 0, none⟩), .int .i64 v, .int .i64 at_, .int .i64 p, .int .i64 (-1)] W fun e W' => (∃ x, e = .returned (.int .i64 x)) ∧ DomAt base W' g (writeAt T v at_ p) ∧ TFrame [110, 113] W W' ∧ Below base W W' := by
  cases hmb : mayB T p with
  | false => exact write_no base g W T v at_ p hT hbz hmb
  | true =>
    cases htx : textIs T p with
    | false => exact write_new base g W T v at_ p hT hw hmb htx hv0 hv1 hm
    | true => exact write_more base g W T v at_ p hT hw hmb htx hv0 hv1 (hsz _ (of_decide_eq_true htx).2)
end Go.Proofs.YtomdidopflebjaaGreatDoor.PM
namespace Go.Proofs.YtomdidopflebjaaGreatDoor.PM
open Go.RowKit Go.Proofs.YtomdidopflebjaaGreatDoorW.PrintWords Go.Proofs.YtomdidopflebjaaGreatDoorW.PrintLast Go.Proofs.YtomdidopflebjaaGreatDoorW.PrintMore
def docOnly : List S110 := [⟨⟨0, 0, ⟨#[]⟩, ⟨#[]⟩, []⟩, loose107⟩]
set_option maxHeartbeats 4000000 in
set_option maxRecDepth 100000 in
theorem new_any (w : World) : Calls Tryz.prog 20 #[] w fun e w' => ∃ g, e = .returned (.pointer (some ⟨g, 0, none⟩)) ∧ DomAt w.heap.size w' g docOnly ∧ Below w.heap.size w w' := by
  have hu59 := Tryz.underlying59
  have hu110 := Tryz.underlying110
  have hu113 := Tryz.underlying113
  go_enter Tryz.func20, Tryz.ntmps20
  go_wp2_with (go_at_call 46; refine (loose_any _).mono ?_; rintro e w1 ⟨rfl, hb⟩; have HB := Aside0.mk hb; clear hb)
  go_ret
  have ho := World.ownsRow_lit (base := w.heap.size) (e := 110) (size := 10) w1 #[.int .i64 0, .int .i64 0, .string ⟨#[]⟩, .string ⟨#[]⟩, .slice none 0 0, .int .i64 (-1), .int .i64 (-1), .int .i64 (-1), .int .i64 (-1), .int .i64 (-1)] 1 HB.out.size (by decide) (by rfl)
  refine ⟨w1.heap.size + 1, rfl, ⟨Nat.le_trans HB.out.size (Nat.le_succ _), _, ?_, fun _ _ => trivial, _, ho.alloc _, ?_⟩, ?_⟩
  · have h := heap_alloc_new (w1.alloc (.cells #[.int .i64 0, .int .i64 0, .string ⟨#[]⟩, .string ⟨#[]⟩, .slice none 0 0, .int .i64 (-1), .int .i64 (-1), .int .i64 (-1), .int .i64 (-1), .int .i64 (-1)] 110)) (.cells #[.slice (some ⟨w1.heap.size, 0, none⟩) 1 1] 113)
    simpa using h
  · exact (Reps.none _ _).snoc (k110_mkM _ _ _ ⟨⟨0, 0, ⟨#[]⟩, ⟨#[]⟩, []⟩, loose107⟩ (Kd.R_nil _ _ _ _ _)) (by rfl)
  · exact below_alloc (below_alloc HB.out _) _
end Go.Proofs.YtomdidopflebjaaGreatDoor.PM
namespace Go.Proofs.YtomdidopflebjaaGreatDoor.PR
open Go.Proofs.YtomdidopflebjaaGreatDoor.PM Go.RowKit Go.Proofs.YtomdidopflebjaaGreatDoorW.PrintWords Go.Proofs.YtomdidopflebjaaGreatDoorW.PrintLast Go.Proofs.YtomdidopflebjaaGreatDoorW.PrintMore
attribute [local go_sem] max2_int min2_int max_two min_two max_three min_three max_four min_four   -- for this text's walks alone
set_option linter.unusedVariables false
set_option linter.unusedSimpArgs false
def beadleref07_Is.f (l0 : List (S105)) (a1 : Int) : Option (Bool) := if a1 ≥ 0 then (if 0 < (l0.length : Int) then (some (decide (a1 < (((rd_T105 l0 0).f0).length : Int)))) else (none)) else (some false)
set_option maxHeartbeats 8000000 in
set_option maxRecDepth 100000 in
theorem beadleref07_Is.calls (A0 : Option Addr) (c0 : Nat) (l0 : List (S105)) (a1 : Int) (r : Bool) (w : World) (hr0 : Kd.C k105 w A0 l0.length l0) (hc0 : l0.length ≤ c0 ∧ (l0 = [] → A0 = none)) (h : beadleref07_Is.f l0 a1 = some r) :
    Calls Tryz.prog 53 #[.pointer A0, .int .i64 a1] w fun e w' => e = .returned (.bool r) ∧ Drawn0 w w' := by
  have HR0 := Aside0.mk hr0
  have HC0 := Aside0.mk hc0
  clear hr0 hc0
  have H : (if a1 ≥ 0 then (if 0 < (l0.length : Int) then (some (decide (a1 < (((rd_T105 l0 0).f0).length : Int)))) else (none)) else (some false)) = some r := h
  clear h
  by_cases c3 : a1 ≥ 0
  · rw [if_pos c3] at H
    have c3b0 : decide (0 ≤ a1) = true := decide_eq_true c3
    clear c3
    by_cases c4 : 0 < (l0.length : Int)
    · rw [if_pos c4] at H
      have c4b0 : decide (0 < (l0.length : Int)) = true := decide_eq_true c4
      have c4b1 : decide (0 < l0.length) = true := decide_eq_true (by omega)
      clear c4
      obtain rfl := Option.some.inj H
      have p101 : 0 ≤ (0 : Int) := (by omega)
      have q101 : 0 < (l0.length : Int) := of_decide_eq_true (by first | (with_reducible assumption) | assumption)
      obtain ⟨ad101, A101_0, c101_0, e101, hx101_0, hl101_0, hi101_0⟩ := at_T105 HR0.out 0 p101 q101
      cases e101
      have qi101 : (0 < l0.length) = True := eq_true (by omega)
      (try rw [show ((0 : Int)).toNat = 0 from rfl] at hx101_0)
      (try rw [Addr.add_zero'] at hx101_0)
      have HR101_0 := Aside0.mk hi101_0
      have HC101_0 := Aside0.mk hl101_0
      clear hi101_0 hl101_0
      replace p101 := eq_true p101
      replace q101 := eq_true q101
      have p102 : 0 ≤ (0 : Int) := (by omega)
      have q102 : 0 < (l0.length : Int) := of_decide_eq_true (by first | (with_reducible assumption) | assumption)
      obtain ⟨ad102, A102_0, c102_0, e102, hx102_0, hl102_0, hi102_0⟩ := at_T105 HR0.out 0 p102 q102
      obtain rfl : ad101 = ad102 := (by injection e102)
      have qi102 : (0 < l0.length) = True := eq_true (by omega)
      (try rw [show ((0 : Int)).toNat = 0 from rfl] at hx102_0)
      (try rw [Addr.add_zero'] at hx102_0)
      have HR102_0 := Aside0.mk hi102_0
      have HC102_0 := Aside0.mk hl102_0
      clear hi102_0 hl102_0
      replace p102 := eq_true p102
      replace q102 := eq_true q102
      have ea_ := Option.some.inj (hx101_0.symm.trans hx102_0)
      injection ea_ with ea_ en_ ec_
      subst ea_
      subst ec_
      clear en_
      go_enter Tryz.func53, Tryz.ntmps53
      go_wp2
      go_ret
      exact ⟨by first | rfl | (simp; done) | (simp [*]; done), by repeat (first | exact Drawn0.refl _ | apply Drawn0.step)⟩
    · rw [if_neg c4] at H
      exact absurd H (by simp)
  · rw [if_neg c3] at H
    have c3b0 : decide (0 ≤ a1) = false := decide_eq_false c3
    clear c3
    obtain rfl := Option.some.inj H
    go_enter Tryz.func53, Tryz.ntmps53
    go_wp2
    go_ret
    exact ⟨by first | rfl | (simp; done) | (simp [*]; done), by repeat (first | exact Drawn0.refl _ | apply Drawn0.step)⟩
def beadleref07_place.l0 : Nat → List Int → Int → Int → Option (Int)
  | 0, _, _, _ => none
  | k + 1, x0, x1, x5 => if x5 < (x0.length : Int) then (if 0 ≤ x5 then (if (rd x0 x5) = x1 then (some x5) else (beadleref07_place.l0 k x0 x1 (wrap64 (x5 + 1)))) else (none)) else (some (-1))
def beadleref07_place.f (k : Nat) (l0 : List Int) (a1 : Int) : Option (Int) := beadleref07_place.l0 k l0 a1 0
set_option maxHeartbeats 8000000 in
set_option maxRecDepth 100000 in
theorem beadleref07_place.calls (k : Nat) (A0 : Option Addr) (c0 : Nat) (l0 : List Int) (a1 : Int) (r : Int) (w : World) (hr0 : Kd.C (Kd.int .i64) w A0 l0.length l0) (hc0 : l0.length ≤ c0) (h : beadleref07_place.f k l0 a1 = some r) :
    Calls Tryz.prog 59 #[.slice A0 l0.length c0, .int .i64 a1] w fun e w' => e = .returned (.int .i64 r) ∧ Drawn0 w w' := by
  have HR0 := Aside0.mk hr0
  have HC0 := Aside0.mk hc0
  clear hr0 hc0
  have H : (beadleref07_place.l0 k l0 a1 0) = some r := h
  clear h
  have H' := Aside0.mk H
  clear H
  go_enter Tryz.func59, Tryz.ntmps59
  go_wp2
  go_loopg [5] k (fun kq v5 w' => ∃ (x5_1 : Int), v5 = .int .i64 x5_1 ∧ Aside0 (beadleref07_place.l0 kq l0 a1 x5_1 = some r) ∧ Aside0 (kq ≤ k) ∧ Drawn0 w w')
  case atStart => exact ⟨(0), (by first | rfl | (simp; done) | (simp [*]; done)), H', ⟨Nat.le_refl _⟩, by repeat (first | exact Drawn0.refl _ | apply Drawn0.step)⟩
  case round =>
    clear H'
    try clear p2
    obtain ⟨x5_1, rfl, HA, HK1, ⟨m1, rfl⟩⟩ := hrel
    cases gk with
    | zero => exact absurd HA.out (by simp [beadleref07_place.l0])
    | succ k1 =>
      have H := HA.out
      clear HA
      simp only [beadleref07_place.l0] at H
      by_cases c3 : x5_1 < (l0.length : Int)
      · rw [if_pos c3] at H
        have c3b0 : decide (x5_1 < (l0.length : Int)) = true := decide_eq_true c3
        clear c3
        by_cases c4 : 0 ≤ x5_1
        · rw [if_pos c4] at H
          have c4b0 : decide (0 ≤ x5_1) = true := decide_eq_true c4
          clear c4
          by_cases c5 : (rd l0 x5_1) = a1
          · rw [if_pos c5] at H
            have c5b0 : ((rd l0 x5_1) == a1) = true := beq_iff_eq.mpr c5
            have c5b1 : ((rd l0 x5_1) != a1) = false := bne_eq_false_iff_eq.mpr c5
            clear c5
            obtain rfl := Option.some.inj H
            have p103 : 0 ≤ (x5_1 : Int) := of_decide_eq_true (by first | (with_reducible assumption) | assumption)
            have q103 : x5_1 < (l0.length : Int) := of_decide_eq_true (by first | (with_reducible assumption) | assumption)
            obtain ⟨ad103, e103, hx103_0⟩ := Kd.at_int HR0.out x5_1 p103 q103
            cases e103
            replace p103 := eq_true p103
            replace q103 := eq_true q103
            go_wp2
            go_ret
            exact ⟨by first | rfl | (simp; done) | (simp [*]; done), by repeat (first | exact Drawn0.refl _ | apply Drawn0.step)⟩
          · rw [if_neg c5] at H
            have c5b0 : ((rd l0 x5_1) == a1) = false := beq_eq_false_iff_ne.mpr c5
            have c5b1 : ((rd l0 x5_1) != a1) = true := bne_iff_ne.mpr c5
            have H' := Aside0.mk H
            clear H
            have p103 : 0 ≤ (x5_1 : Int) := of_decide_eq_true (by first | (with_reducible assumption) | assumption)
            have q103 : x5_1 < (l0.length : Int) := of_decide_eq_true (by first | (with_reducible assumption) | assumption)
            obtain ⟨ad103, e103, hx103_0⟩ := Kd.at_int HR0.out x5_1 p103 q103
            cases e103
            replace p103 := eq_true p103
            replace q103 := eq_true q103
            go_wp2
            go_roundg k1
            case measure => have := HK1.out; omega
            case rel => exact ⟨(wrap64 (x5_1 + 1)), (by first | rfl | (simp; done) | (simp [*]; done)), H', ⟨by have := HK1.out; omega⟩, by repeat (first | exact Drawn0.refl _ | apply Drawn0.step)⟩
        · rw [if_neg c4] at H
          exact absurd H (by simp)
      · rw [if_neg c3] at H
        have c3b0 : decide (x5_1 < (l0.length : Int)) = false := decide_eq_false c3
        clear c3
        obtain rfl := Option.some.inj H
        go_wp2
        go_ret
        exact ⟨by first | rfl | (simp; done) | (simp [*]; done), by repeat (first | exact Drawn0.refl _ | apply Drawn0.step)⟩
def beadleref07_holds.f (l0 : List (S105)) (a1 : Int) : Option (Bool) := (beadleref07_Is.f l0 a1).bind fun t104 => (if t104 = true then (if 0 < (l0.length : Int) then (if 0 ≤ a1 then (if a1 < (((rd_T105 l0 0).f0).length : Int) then (if ((rd_T68 ((rd_T105 l0 0).f0) a1).f0) = 0 then (some true) else (some (((rd_T68 ((rd_T105 l0 0).f0) a1).f0) == 2))) else (none)) else (none)) else (none)) else (some false))
set_option maxHeartbeats 8000000 in
set_option maxRecDepth 100000 in
theorem beadleref07_holds.calls (A0 : Option Addr) (c0 : Nat) (l0 : List (S105)) (a1 : Int) (r : Bool) (w : World) (hr0 : Kd.C k105 w A0 l0.length l0) (hc0 : l0.length ≤ c0 ∧ (l0 = [] → A0 = none)) (h : beadleref07_holds.f l0 a1 = some r) :
    Calls Tryz.prog 86 #[.pointer A0, .int .i64 a1] w fun e w' => e = .returned (.bool r) ∧ Drawn0 w w' := by
  have HR0 := Aside0.mk hr0
  have HC0 := Aside0.mk hc0
  clear hr0 hc0
  have H : ((beadleref07_Is.f l0 a1).bind fun t104 => (if t104 = true then (if 0 < (l0.length : Int) then (if 0 ≤ a1 then (if a1 < (((rd_T105 l0 0).f0).length : Int) then (if ((rd_T68 ((rd_T105 l0 0).f0) a1).f0) = 0 then (some true) else (some (((rd_T68 ((rd_T105 l0 0).f0) a1).f0) == 2))) else (none)) else (none)) else (none)) else (some false))) = some r := h
  clear h
  replace H := Option.bind_eq_some_iff.mp H
  obtain ⟨t104, A30, H⟩ := H
  replace H : (if t104 = true then (if 0 < (l0.length : Int) then (if 0 ≤ a1 then (if a1 < (((rd_T105 l0 0).f0).length : Int) then (if ((rd_T68 ((rd_T105 l0 0).f0) a1).f0) = 0 then (some true) else (some (((rd_T68 ((rd_T105 l0 0).f0) a1).f0) == 2))) else (none)) else (none)) else (none)) else (some false)) = some r := H
  have A3 := Aside0.mk A30
  clear A30
  by_cases c4 : t104 = true
  · subst c4
    have H1 : (if 0 < (l0.length : Int) then (if 0 ≤ a1 then (if a1 < (((rd_T105 l0 0).f0).length : Int) then (if ((rd_T68 ((rd_T105 l0 0).f0) a1).f0) = 0 then (some true) else (some (((rd_T68 ((rd_T105 l0 0).f0) a1).f0) == 2))) else (none)) else (none)) else (none)) = some r := by rw [if_pos rfl] at H; exact H
    clear H
    have H := H1
    clear H1
    by_cases c5 : 0 < (l0.length : Int)
    · rw [if_pos c5] at H
      have c5b0 : decide (0 < (l0.length : Int)) = true := decide_eq_true c5
      have c5b1 : decide (0 < l0.length) = true := decide_eq_true (by omega)
      clear c5
      by_cases c6 : 0 ≤ a1
      · rw [if_pos c6] at H
        have c6b0 : decide (0 ≤ a1) = true := decide_eq_true c6
        clear c6
        by_cases c7 : a1 < (((rd_T105 l0 0).f0).length : Int)
        · rw [if_pos c7] at H
          have c7b0 : decide (a1 < (((rd_T105 l0 0).f0).length : Int)) = true := decide_eq_true c7
          clear c7
          by_cases c8 : ((rd_T68 ((rd_T105 l0 0).f0) a1).f0) = 0
          · rw [if_pos c8] at H
            have c8b0 : (((rd_T68 ((rd_T105 l0 0).f0) a1).f0) == 0) = true := beq_iff_eq.mpr c8
            have c8b1 : (((rd_T68 ((rd_T105 l0 0).f0) a1).f0) != 0) = false := bne_eq_false_iff_eq.mpr c8
            clear c8
            obtain rfl := Option.some.inj H
            go_enter Tryz.func86, Tryz.ntmps86
            go_wp2_with (first | ((with_reducible refine gate_callee (f := 53) rfl ?_); refine goesL_ (some 7) rfl rfl Tryz.func53 (by kernel_rfl) rfl #[.pointer A0, .int .i64 a1] rfl (by (try simp only [List.map_toArray, List.map_cons, List.map_nil]); first | done | rfl | (simp only [List.length_drop, List.length_take]; rfl)) ?_; (with_reducible refine (beadleref07_Is.calls _ l0.length l0 a1 true _ ?side1 ?side2 A3.out).mono ?_); (case side1 => repeat (first | exact HR0.out | (with_reducible refine Kd.C_alloc ?_ _) | (with_reducible refine Kd.C_drewN ?_ _) | (with_reducible refine Kd.C_drew ?_))); (case side2 => exact ⟨Nat.le_refl _, HC0.out.2⟩); rintro e w' ⟨rfl, ⟨nd, rfl⟩⟩; refine ⟨_, rfl, ?_⟩; have p105 : 0 ≤ (0 : Int) := (by omega); have q105 : 0 < (l0.length : Int) := of_decide_eq_true (by first | (with_reducible assumption) | assumption); obtain ⟨ad105, A105_0, c105_0, e105, hx105_0, hl105_0, hi105_0⟩ := at_T105 HR0.out 0 p105 q105; cases e105; have qi105 : (0 < l0.length) = True := eq_true (by omega); (try rw [show ((0 : Int)).toNat = 0 from rfl] at hx105_0); (try rw [Addr.add_zero'] at hx105_0); have HR105_0 := Aside0.mk hi105_0; have HC105_0 := Aside0.mk hl105_0; clear hi105_0 hl105_0; replace p105 := eq_true p105; replace q105 := eq_true q105; have p106 : 0 ≤ (0 : Int) := (by omega); have q106 : 0 < (l0.length : Int) := of_decide_eq_true (by first | (with_reducible assumption) | assumption); obtain ⟨ad106, A106_0, c106_0, e106, hx106_0, hl106_0, hi106_0⟩ := at_T105 HR0.out 0 p106 q106; obtain rfl : ad105 = ad106 := (by injection e106); have qi106 : (0 < l0.length) = True := eq_true (by omega); (try rw [show ((0 : Int)).toNat = 0 from rfl] at hx106_0); (try rw [Addr.add_zero'] at hx106_0); have HR106_0 := Aside0.mk hi106_0; have HC106_0 := Aside0.mk hl106_0; clear hi106_0 hl106_0; replace p106 := eq_true p106; replace q106 := eq_true q106; have ea_ := Option.some.inj (hx105_0.symm.trans hx106_0); injection ea_ with ea_ en_ ec_; subst ea_; subst ec_; clear en_; have p107 : 0 ≤ (a1 : Int) := of_decide_eq_true (by first | (with_reducible assumption) | assumption); have q107 : a1 < (((rd_T105 l0 0).f0).length : Int) := of_decide_eq_true (by first | (with_reducible assumption) | assumption); obtain ⟨ad107, A107_4, c107_4, A107_6, c107_6, e107, hx107_0, hx107_1, hx107_2, hx107_3, hx107_4, hx107_5, hx107_6, hl107_4, hi107_4, hl107_6, hi107_6⟩ := at_T68 HR106_0.out a1 p107 q107; cases e107; have HR107_4 := Aside0.mk hi107_4; have HC107_4 := Aside0.mk hl107_4; clear hi107_4 hl107_4; have HR107_6 := Aside0.mk hi107_6; have HC107_6 := Aside0.mk hl107_6; clear hi107_6 hl107_6; replace p107 := eq_true p107; replace q107 := eq_true q107))
            go_ret
            exact ⟨by first | rfl | (simp; done) | (simp [*]; done), by repeat (first | exact Drawn0.refl _ | apply Drawn0.step)⟩
          · rw [if_neg c8] at H
            have c8b0 : (((rd_T68 ((rd_T105 l0 0).f0) a1).f0) == 0) = false := beq_eq_false_iff_ne.mpr c8
            have c8b1 : (((rd_T68 ((rd_T105 l0 0).f0) a1).f0) != 0) = true := bne_iff_ne.mpr c8
            obtain rfl := Option.some.inj H
            go_enter Tryz.func86, Tryz.ntmps86
            go_wp2_with (first | ((with_reducible refine gate_callee (f := 53) rfl ?_); refine goesL_ (some 7) rfl rfl Tryz.func53 (by kernel_rfl) rfl #[.pointer A0, .int .i64 a1] rfl (by (try simp only [List.map_toArray, List.map_cons, List.map_nil]); first | done | rfl | (simp only [List.length_drop, List.length_take]; rfl)) ?_; (with_reducible refine (beadleref07_Is.calls _ l0.length l0 a1 true _ ?side1 ?side2 A3.out).mono ?_); (case side1 => repeat (first | exact HR0.out | (with_reducible refine Kd.C_alloc ?_ _) | (with_reducible refine Kd.C_drewN ?_ _) | (with_reducible refine Kd.C_drew ?_))); (case side2 => exact ⟨Nat.le_refl _, HC0.out.2⟩); rintro e w' ⟨rfl, ⟨nd, rfl⟩⟩; refine ⟨_, rfl, ?_⟩; have p105 : 0 ≤ (0 : Int) := (by omega); have q105 : 0 < (l0.length : Int) := of_decide_eq_true (by first | (with_reducible assumption) | assumption); obtain ⟨ad105, A105_0, c105_0, e105, hx105_0, hl105_0, hi105_0⟩ := at_T105 HR0.out 0 p105 q105; cases e105; have qi105 : (0 < l0.length) = True := eq_true (by omega); (try rw [show ((0 : Int)).toNat = 0 from rfl] at hx105_0); (try rw [Addr.add_zero'] at hx105_0); have HR105_0 := Aside0.mk hi105_0; have HC105_0 := Aside0.mk hl105_0; clear hi105_0 hl105_0; replace p105 := eq_true p105; replace q105 := eq_true q105; have p106 : 0 ≤ (0 : Int) := (by omega); have q106 : 0 < (l0.length : Int) := of_decide_eq_true (by first | (with_reducible assumption) | assumption); obtain ⟨ad106, A106_0, c106_0, e106, hx106_0, hl106_0, hi106_0⟩ := at_T105 HR0.out 0 p106 q106; obtain rfl : ad105 = ad106 := (by injection e106); have qi106 : (0 < l0.length) = True := eq_true (by omega); (try rw [show ((0 : Int)).toNat = 0 from rfl] at hx106_0); (try rw [Addr.add_zero'] at hx106_0); have HR106_0 := Aside0.mk hi106_0; have HC106_0 := Aside0.mk hl106_0; clear hi106_0 hl106_0; replace p106 := eq_true p106; replace q106 := eq_true q106; have ea_ := Option.some.inj (hx105_0.symm.trans hx106_0); injection ea_ with ea_ en_ ec_; subst ea_; subst ec_; clear en_; have p107 : 0 ≤ (a1 : Int) := of_decide_eq_true (by first | (with_reducible assumption) | assumption); have q107 : a1 < (((rd_T105 l0 0).f0).length : Int) := of_decide_eq_true (by first | (with_reducible assumption) | assumption); obtain ⟨ad107, A107_4, c107_4, A107_6, c107_6, e107, hx107_0, hx107_1, hx107_2, hx107_3, hx107_4, hx107_5, hx107_6, hl107_4, hi107_4, hl107_6, hi107_6⟩ := at_T68 HR106_0.out a1 p107 q107; cases e107; have HR107_4 := Aside0.mk hi107_4; have HC107_4 := Aside0.mk hl107_4; clear hi107_4 hl107_4; have HR107_6 := Aside0.mk hi107_6; have HC107_6 := Aside0.mk hl107_6; clear hi107_6 hl107_6; replace p107 := eq_true p107; replace q107 := eq_true q107; have p108 : 0 ≤ (0 : Int) := (by omega); have q108 : 0 < (l0.length : Int) := of_decide_eq_true (by first | (with_reducible assumption) | assumption); obtain ⟨ad108, A108_0, c108_0, e108, hx108_0, hl108_0, hi108_0⟩ := at_T105 HR0.out 0 p108 q108; obtain rfl : ad105 = ad108 := (by injection e108); have qi108 : (0 < l0.length) = True := eq_true (by omega); (try rw [show ((0 : Int)).toNat = 0 from rfl] at hx108_0); (try rw [Addr.add_zero'] at hx108_0); have HR108_0 := Aside0.mk hi108_0; have HC108_0 := Aside0.mk hl108_0; clear hi108_0 hl108_0; replace p108 := eq_true p108; replace q108 := eq_true q108; have ea_ := Option.some.inj (hx105_0.symm.trans hx108_0); injection ea_ with ea_ en_ ec_; subst ea_; subst ec_; clear en_; have p109 : 0 ≤ (0 : Int) := (by omega); have q109 : 0 < (l0.length : Int) := of_decide_eq_true (by first | (with_reducible assumption) | assumption); obtain ⟨ad109, A109_0, c109_0, e109, hx109_0, hl109_0, hi109_0⟩ := at_T105 HR0.out 0 p109 q109; obtain rfl : ad105 = ad109 := (by injection e109); have qi109 : (0 < l0.length) = True := eq_true (by omega); (try rw [show ((0 : Int)).toNat = 0 from rfl] at hx109_0); (try rw [Addr.add_zero'] at hx109_0); have HR109_0 := Aside0.mk hi109_0; have HC109_0 := Aside0.mk hl109_0; clear hi109_0 hl109_0; replace p109 := eq_true p109; replace q109 := eq_true q109; have ea_ := Option.some.inj (hx105_0.symm.trans hx109_0); injection ea_ with ea_ en_ ec_; subst ea_; subst ec_; clear en_; have p110 : 0 ≤ (a1 : Int) := of_decide_eq_true (by first | (with_reducible assumption) | assumption); have q110 : a1 < (((rd_T105 l0 0).f0).length : Int) := of_decide_eq_true (by first | (with_reducible assumption) | assumption); obtain ⟨ad110, A110_4, c110_4, A110_6, c110_6, e110, hx110_0, hx110_1, hx110_2, hx110_3, hx110_4, hx110_5, hx110_6, hl110_4, hi110_4, hl110_6, hi110_6⟩ := at_T68 HR109_0.out a1 p110 q110; cases e110; have HR110_4 := Aside0.mk hi110_4; have HC110_4 := Aside0.mk hl110_4; clear hi110_4 hl110_4; have HR110_6 := Aside0.mk hi110_6; have HC110_6 := Aside0.mk hl110_6; clear hi110_6 hl110_6; replace p110 := eq_true p110; replace q110 := eq_true q110))
            go_ret
            exact ⟨by first | rfl | (simp; done) | (simp [*]; done), by repeat (first | exact Drawn0.refl _ | apply Drawn0.step)⟩
        · rw [if_neg c7] at H
          exact absurd H (by simp)
      · rw [if_neg c6] at H
        exact absurd H (by simp)
    · rw [if_neg c5] at H
      exact absurd H (by simp)
  · replace c4 := Bool.eq_false_iff.mpr c4
    subst c4
    have H1 : (some false) = some r := by rw [if_neg (show ¬ (false = true) by decide)] at H; exact H
    clear H
    have H := H1
    clear H1
    obtain rfl := Option.some.inj H
    go_enter Tryz.func86, Tryz.ntmps86
    go_wp2_with (first | ((with_reducible refine gate_callee (f := 53) rfl ?_); refine goesL_ (some 7) rfl rfl Tryz.func53 (by kernel_rfl) rfl #[.pointer A0, .int .i64 a1] rfl (by (try simp only [List.map_toArray, List.map_cons, List.map_nil]); first | done | rfl | (simp only [List.length_drop, List.length_take]; rfl)) ?_; (with_reducible refine (beadleref07_Is.calls _ l0.length l0 a1 false _ ?side1 ?side2 A3.out).mono ?_); (case side1 => repeat (first | exact HR0.out | (with_reducible refine Kd.C_alloc ?_ _) | (with_reducible refine Kd.C_drewN ?_ _) | (with_reducible refine Kd.C_drew ?_))); (case side2 => exact ⟨Nat.le_refl _, HC0.out.2⟩); rintro e w' ⟨rfl, ⟨nd, rfl⟩⟩; refine ⟨_, rfl, ?_⟩))
    go_ret
    exact ⟨by first | rfl | (simp; done) | (simp [*]; done), by repeat (first | exact Drawn0.refl _ | apply Drawn0.step)⟩
def beadleref07_may.f (k : Nat) (l0 : List (S105)) (a1 : Int) (a2 : Int) : Option (Bool) := (beadleref07_holds.f l0 a1).bind fun t111 => (if t111 = true then (if a2 = (-1) then (some true) else (if 0 < (l0.length : Int) then (if 0 ≤ a1 then (if a1 < (((rd_T105 l0 0).f0).length : Int) then ((beadleref07_place.f k ((rd_T68 ((rd_T105 l0 0).f0) a1).f6) a2).bind fun t115 => (some (decide (t115 ≥ 0)))) else (none)) else (none)) else (none))) else (some false))
set_option maxHeartbeats 8000000 in
set_option maxRecDepth 100000 in
theorem beadleref07_may.calls (k : Nat) (A0 : Option Addr) (c0 : Nat) (l0 : List (S105)) (a1 : Int) (a2 : Int) (r : Bool) (w : World) (hr0 : Kd.C k105 w A0 l0.length l0) (hc0 : l0.length ≤ c0 ∧ (l0 = [] → A0 = none)) (h : beadleref07_may.f k l0 a1 a2 = some r) :
    Calls Tryz.prog 54 #[.pointer A0, .int .i64 a1, .int .i64 a2] w fun e w' => e = .returned (.bool r) ∧ Drawn0 w w' := by
  have HR0 := Aside0.mk hr0
  have HC0 := Aside0.mk hc0
  clear hr0 hc0
  have H : ((beadleref07_holds.f l0 a1).bind fun t111 => (if t111 = true then (if a2 = (-1) then (some true) else (if 0 < (l0.length : Int) then (if 0 ≤ a1 then (if a1 < (((rd_T105 l0 0).f0).length : Int) then ((beadleref07_place.f k ((rd_T68 ((rd_T105 l0 0).f0) a1).f6) a2).bind fun t115 => (some (decide (t115 ≥ 0)))) else (none)) else (none)) else (none))) else (some false))) = some r := h
  clear h
  replace H := Option.bind_eq_some_iff.mp H
  obtain ⟨t111, A40, H⟩ := H
  replace H : (if t111 = true then (if a2 = (-1) then (some true) else (if 0 < (l0.length : Int) then (if 0 ≤ a1 then (if a1 < (((rd_T105 l0 0).f0).length : Int) then ((beadleref07_place.f k ((rd_T68 ((rd_T105 l0 0).f0) a1).f6) a2).bind fun t115 => (some (decide (t115 ≥ 0)))) else (none)) else (none)) else (none))) else (some false)) = some r := H
  have A4 := Aside0.mk A40
  clear A40
  by_cases c5 : t111 = true
  · subst c5
    have H1 : (if a2 = (-1) then (some true) else (if 0 < (l0.length : Int) then (if 0 ≤ a1 then (if a1 < (((rd_T105 l0 0).f0).length : Int) then ((beadleref07_place.f k ((rd_T68 ((rd_T105 l0 0).f0) a1).f6) a2).bind fun t115 => (some (decide (t115 ≥ 0)))) else (none)) else (none)) else (none))) = some r := by rw [if_pos rfl] at H; exact H
    clear H
    have H := H1
    clear H1
    by_cases c6 : a2 = (-1)
    · rw [if_pos c6] at H
      have c6b0 : (a2 == (-1)) = true := beq_iff_eq.mpr c6
      have c6b1 : (a2 != (-1)) = false := bne_eq_false_iff_eq.mpr c6
      clear c6
      obtain rfl := Option.some.inj H
      go_enter Tryz.func54, Tryz.ntmps54
      go_wp2_with (first | ((with_reducible refine gate_callee (f := 86) rfl ?_); refine goesL_ (some 9) rfl rfl Tryz.func86 (by kernel_rfl) rfl #[.pointer A0, .int .i64 a1] rfl (by (try simp only [List.map_toArray, List.map_cons, List.map_nil]); first | done | rfl | (simp only [List.length_drop, List.length_take]; rfl)) ?_; (with_reducible refine (beadleref07_holds.calls _ l0.length l0 a1 true _ ?side1 ?side2 A4.out).mono ?_); (case side1 => repeat (first | exact HR0.out | (with_reducible refine Kd.C_alloc ?_ _) | (with_reducible refine Kd.C_drewN ?_ _) | (with_reducible refine Kd.C_drew ?_))); (case side2 => exact ⟨Nat.le_refl _, HC0.out.2⟩); rintro e w' ⟨rfl, ⟨nd, rfl⟩⟩; refine ⟨_, rfl, ?_⟩))
      go_ret
      exact ⟨by first | rfl | (simp; done) | (simp [*]; done), by repeat (first | exact Drawn0.refl _ | apply Drawn0.step)⟩
    · rw [if_neg c6] at H
      have c6b0 : (a2 == (-1)) = false := beq_eq_false_iff_ne.mpr c6
      have c6b1 : (a2 != (-1)) = true := bne_iff_ne.mpr c6
      by_cases c7 : 0 < (l0.length : Int)
      · rw [if_pos c7] at H
        have c7b0 : decide (0 < (l0.length : Int)) = true := decide_eq_true c7
        have c7b1 : decide (0 < l0.length) = true := decide_eq_true (by omega)
        clear c7
        by_cases c8 : 0 ≤ a1
        · rw [if_pos c8] at H
          have c8b0 : decide (0 ≤ a1) = true := decide_eq_true c8
          clear c8
          by_cases c9 : a1 < (((rd_T105 l0 0).f0).length : Int)
          · rw [if_pos c9] at H
            have c9b0 : decide (a1 < (((rd_T105 l0 0).f0).length : Int)) = true := decide_eq_true c9
            clear c9
            replace H := Option.bind_eq_some_iff.mp H
            obtain ⟨t115, A100, H⟩ := H
            replace H : (some (decide (t115 ≥ 0))) = some r := H
            have A10 := Aside0.mk A100
            clear A100
            obtain rfl := Option.some.inj H
            go_enter Tryz.func54, Tryz.ntmps54
            go_wp2_with (first | ((with_reducible refine gate_callee (f := 86) rfl ?_); refine goesL_ (some 9) rfl rfl Tryz.func86 (by kernel_rfl) rfl #[.pointer A0, .int .i64 a1] rfl (by (try simp only [List.map_toArray, List.map_cons, List.map_nil]); first | done | rfl | (simp only [List.length_drop, List.length_take]; rfl)) ?_; (with_reducible refine (beadleref07_holds.calls _ l0.length l0 a1 true _ ?side1 ?side2 A4.out).mono ?_); (case side1 => repeat (first | exact HR0.out | (with_reducible refine Kd.C_alloc ?_ _) | (with_reducible refine Kd.C_drewN ?_ _) | (with_reducible refine Kd.C_drew ?_))); (case side2 => exact ⟨Nat.le_refl _, HC0.out.2⟩); rintro e w' ⟨rfl, ⟨nd, rfl⟩⟩; refine ⟨_, rfl, ?_⟩; have p112 : 0 ≤ (0 : Int) := (by omega); have q112 : 0 < (l0.length : Int) := of_decide_eq_true (by first | (with_reducible assumption) | assumption); obtain ⟨ad112, A112_0, c112_0, e112, hx112_0, hl112_0, hi112_0⟩ := at_T105 HR0.out 0 p112 q112; cases e112; have qi112 : (0 < l0.length) = True := eq_true (by omega); (try rw [show ((0 : Int)).toNat = 0 from rfl] at hx112_0); (try rw [Addr.add_zero'] at hx112_0); have HR112_0 := Aside0.mk hi112_0; have HC112_0 := Aside0.mk hl112_0; clear hi112_0 hl112_0; replace p112 := eq_true p112; replace q112 := eq_true q112; have p113 : 0 ≤ (0 : Int) := (by omega); have q113 : 0 < (l0.length : Int) := of_decide_eq_true (by first | (with_reducible assumption) | assumption); obtain ⟨ad113, A113_0, c113_0, e113, hx113_0, hl113_0, hi113_0⟩ := at_T105 HR0.out 0 p113 q113; obtain rfl : ad112 = ad113 := (by injection e113); have qi113 : (0 < l0.length) = True := eq_true (by omega); (try rw [show ((0 : Int)).toNat = 0 from rfl] at hx113_0); (try rw [Addr.add_zero'] at hx113_0); have HR113_0 := Aside0.mk hi113_0; have HC113_0 := Aside0.mk hl113_0; clear hi113_0 hl113_0; replace p113 := eq_true p113; replace q113 := eq_true q113; have ea_ := Option.some.inj (hx112_0.symm.trans hx113_0); injection ea_ with ea_ en_ ec_; subst ea_; subst ec_; clear en_; have p114 : 0 ≤ (a1 : Int) := of_decide_eq_true (by first | (with_reducible assumption) | assumption); have q114 : a1 < (((rd_T105 l0 0).f0).length : Int) := of_decide_eq_true (by first | (with_reducible assumption) | assumption); obtain ⟨ad114, A114_4, c114_4, A114_6, c114_6, e114, hx114_0, hx114_1, hx114_2, hx114_3, hx114_4, hx114_5, hx114_6, hl114_4, hi114_4, hl114_6, hi114_6⟩ := at_T68 HR113_0.out a1 p114 q114; cases e114; have HR114_4 := Aside0.mk hi114_4; have HC114_4 := Aside0.mk hl114_4; clear hi114_4 hl114_4; have HR114_6 := Aside0.mk hi114_6; have HC114_6 := Aside0.mk hl114_6; clear hi114_6 hl114_6; replace p114 := eq_true p114; replace q114 := eq_true q114) | (go_at_call 59; (with_reducible refine (beadleref07_place.calls k _ _ ((rd_T68 ((rd_T105 l0 0).f0) a1).f6) a2 t115 _ ?side1 ?side2 A10.out).mono ?_); (case side1 => repeat (first | exact HR114_6.out | (with_reducible refine Kd.C_alloc ?_ _) | (with_reducible refine Kd.C_drewN ?_ _) | (with_reducible refine Kd.C_drew ?_))); (case side2 => exact HC114_6.out); rintro e w' ⟨rfl, ⟨nd, rfl⟩⟩))
            go_ret
            exact ⟨by first | rfl | (simp; done) | (simp [*]; done), by repeat (first | exact Drawn0.refl _ | apply Drawn0.step)⟩
          · rw [if_neg c9] at H
            exact absurd H (by simp)
        · rw [if_neg c8] at H
          exact absurd H (by simp)
      · rw [if_neg c7] at H
        exact absurd H (by simp)
  · replace c5 := Bool.eq_false_iff.mpr c5
    subst c5
    have H1 : (some false) = some r := by rw [if_neg (show ¬ (false = true) by decide)] at H; exact H
    clear H
    have H := H1
    clear H1
    obtain rfl := Option.some.inj H
    go_enter Tryz.func54, Tryz.ntmps54
    go_wp2_with (first | ((with_reducible refine gate_callee (f := 86) rfl ?_); refine goesL_ (some 9) rfl rfl Tryz.func86 (by kernel_rfl) rfl #[.pointer A0, .int .i64 a1] rfl (by (try simp only [List.map_toArray, List.map_cons, List.map_nil]); first | done | rfl | (simp only [List.length_drop, List.length_take]; rfl)) ?_; (with_reducible refine (beadleref07_holds.calls _ l0.length l0 a1 false _ ?side1 ?side2 A4.out).mono ?_); (case side1 => repeat (first | exact HR0.out | (with_reducible refine Kd.C_alloc ?_ _) | (with_reducible refine Kd.C_drewN ?_ _) | (with_reducible refine Kd.C_drew ?_))); (case side2 => exact ⟨Nat.le_refl _, HC0.out.2⟩); rintro e w' ⟨rfl, ⟨nd, rfl⟩⟩; refine ⟨_, rfl, ?_⟩))
    go_ret
    exact ⟨by first | rfl | (simp; done) | (simp [*]; done), by repeat (first | exact Drawn0.refl _ | apply Drawn0.step)⟩
def beadleref07_Under.l0 : Nat → List (S105) → Int → Int → Option (Bool)
  | 0, _, _, _ => none
  | k + 1, x0, x1, x2 => if x1 ≥ 0 then (if x1 = x2 then (some true) else (if 0 < (x0.length : Int) then (if 0 ≤ x1 then (if x1 < (((rd_T105 x0 0).f0).length : Int) then (beadleref07_Under.l0 k x0 ((rd_T68 ((rd_T105 x0 0).f0) x1).f5) x2) else (none)) else (none)) else (none))) else (some false)
def beadleref07_Under.f (k : Nat) (l0 : List (S105)) (a1 : Int) (a2 : Int) : Option (Bool) := beadleref07_Under.l0 k l0 a1 a2
set_option maxHeartbeats 8000000 in
set_option maxRecDepth 100000 in
theorem beadleref07_Under.calls (k : Nat) (A0 : Option Addr) (c0 : Nat) (l0 : List (S105)) (a1 : Int) (a2 : Int) (r : Bool) (w : World) (hr0 : Kd.C k105 w A0 l0.length l0) (hc0 : l0.length ≤ c0 ∧ (l0 = [] → A0 = none)) (h : beadleref07_Under.f k l0 a1 a2 = some r) :
    Calls Tryz.prog 55 #[.pointer A0, .int .i64 a1, .int .i64 a2] w fun e w' => e = .returned (.bool r) ∧ Drawn0 w w' := by
  have HR0 := Aside0.mk hr0
  have HC0 := Aside0.mk hc0
  clear hr0 hc0
  have H : (beadleref07_Under.l0 k l0 a1 a2) = some r := h
  clear h
  have H' := Aside0.mk H
  clear H
  go_enter Tryz.func55, Tryz.ntmps55
  go_wp2
  go_loopg [1] k (fun kq v1 w' => ∃ (x1_1 : Int), v1 = .int .i64 x1_1 ∧ Aside0 (beadleref07_Under.l0 kq l0 x1_1 a2 = some r) ∧ Aside0 (kq ≤ k) ∧ Drawn0 w w')
  case atStart => exact ⟨(a1), (by first | rfl | (simp; done) | (simp [*]; done)), H', ⟨Nat.le_refl _⟩, by repeat (first | exact Drawn0.refl _ | apply Drawn0.step)⟩
  case round =>
    clear H'
    try clear p2
    obtain ⟨x1_1, rfl, HA, HK1, ⟨m1, rfl⟩⟩ := hrel
    cases gk with
    | zero => exact absurd HA.out (by simp [beadleref07_Under.l0])
    | succ k1 =>
      have H := HA.out
      clear HA
      simp only [beadleref07_Under.l0] at H
      by_cases c4 : x1_1 ≥ 0
      · rw [if_pos c4] at H
        have c4b0 : decide (0 ≤ x1_1) = true := decide_eq_true c4
        clear c4
        by_cases c5 : x1_1 = a2
        · rw [if_pos c5] at H
          have c5b0 : (x1_1 == a2) = true := beq_iff_eq.mpr c5
          have c5b1 : (x1_1 != a2) = false := bne_eq_false_iff_eq.mpr c5
          clear c5
          obtain rfl := Option.some.inj H
          go_wp2
          go_ret
          exact ⟨by first | rfl | (simp; done) | (simp [*]; done), by repeat (first | exact Drawn0.refl _ | apply Drawn0.step)⟩
        · rw [if_neg c5] at H
          have c5b0 : (x1_1 == a2) = false := beq_eq_false_iff_ne.mpr c5
          have c5b1 : (x1_1 != a2) = true := bne_iff_ne.mpr c5
          by_cases c6 : 0 < (l0.length : Int)
          · rw [if_pos c6] at H
            have c6b0 : decide (0 < (l0.length : Int)) = true := decide_eq_true c6
            have c6b1 : decide (0 < l0.length) = true := decide_eq_true (by omega)
            clear c6
            by_cases c7 : 0 ≤ x1_1
            · rw [if_pos c7] at H
              have c7b0 : decide (0 ≤ x1_1) = true := decide_eq_true c7
              clear c7
              by_cases c8 : x1_1 < (((rd_T105 l0 0).f0).length : Int)
              · rw [if_pos c8] at H
                have c8b0 : decide (x1_1 < (((rd_T105 l0 0).f0).length : Int)) = true := decide_eq_true c8
                clear c8
                have H' := Aside0.mk H
                clear H
                have p116 : 0 ≤ (0 : Int) := (by omega)
                have q116 : 0 < (l0.length : Int) := of_decide_eq_true (by first | (with_reducible assumption) | assumption)
                obtain ⟨ad116, A116_0, c116_0, e116, hx116_0, hl116_0, hi116_0⟩ := at_T105 HR0.out 0 p116 q116
                cases e116
                have qi116 : (0 < l0.length) = True := eq_true (by omega)
                (try rw [show ((0 : Int)).toNat = 0 from rfl] at hx116_0)
                (try rw [Addr.add_zero'] at hx116_0)
                have HR116_0 := Aside0.mk hi116_0
                have HC116_0 := Aside0.mk hl116_0
                clear hi116_0 hl116_0
                replace p116 := eq_true p116
                replace q116 := eq_true q116
                have p117 : 0 ≤ (0 : Int) := (by omega)
                have q117 : 0 < (l0.length : Int) := of_decide_eq_true (by first | (with_reducible assumption) | assumption)
                obtain ⟨ad117, A117_0, c117_0, e117, hx117_0, hl117_0, hi117_0⟩ := at_T105 HR0.out 0 p117 q117
                obtain rfl : ad116 = ad117 := (by injection e117)
                have qi117 : (0 < l0.length) = True := eq_true (by omega)
                (try rw [show ((0 : Int)).toNat = 0 from rfl] at hx117_0)
                (try rw [Addr.add_zero'] at hx117_0)
                have HR117_0 := Aside0.mk hi117_0
                have HC117_0 := Aside0.mk hl117_0
                clear hi117_0 hl117_0
                replace p117 := eq_true p117
                replace q117 := eq_true q117
                have ea_ := Option.some.inj (hx116_0.symm.trans hx117_0)
                injection ea_ with ea_ en_ ec_
                subst ea_
                subst ec_
                clear en_
                have p118 : 0 ≤ (x1_1 : Int) := of_decide_eq_true (by first | (with_reducible assumption) | assumption)
                have q118 : x1_1 < (((rd_T105 l0 0).f0).length : Int) := of_decide_eq_true (by first | (with_reducible assumption) | assumption)
                obtain ⟨ad118, A118_4, c118_4, A118_6, c118_6, e118, hx118_0, hx118_1, hx118_2, hx118_3, hx118_4, hx118_5, hx118_6, hl118_4, hi118_4, hl118_6, hi118_6⟩ := at_T68 HR117_0.out x1_1 p118 q118
                cases e118
                have HR118_4 := Aside0.mk hi118_4
                have HC118_4 := Aside0.mk hl118_4
                clear hi118_4 hl118_4
                have HR118_6 := Aside0.mk hi118_6
                have HC118_6 := Aside0.mk hl118_6
                clear hi118_6 hl118_6
                replace p118 := eq_true p118
                replace q118 := eq_true q118
                go_wp2
                go_roundg k1
                case measure => have := HK1.out; omega
                case rel => exact ⟨((rd_T68 ((rd_T105 l0 0).f0) x1_1).f5), (by first | rfl | (simp; done) | (simp [*]; done)), H', ⟨by have := HK1.out; omega⟩, by repeat (first | exact Drawn0.refl _ | apply Drawn0.step)⟩
              · rw [if_neg c8] at H
                exact absurd H (by simp)
            · rw [if_neg c7] at H
              exact absurd H (by simp)
          · rw [if_neg c6] at H
            exact absurd H (by simp)
      · rw [if_neg c4] at H
        have c4b0 : decide (0 ≤ x1_1) = false := decide_eq_false c4
        clear c4
        obtain rfl := Option.some.inj H
        go_wp2
        go_ret
        exact ⟨by first | rfl | (simp; done) | (simp [*]; done), by repeat (first | exact Drawn0.refl _ | apply Drawn0.step)⟩
def beadleref05_Bytes.l0 : Nat → Int → List Int → Int → Int → Option (ByteArray)
  | 0, _, _, _, _ => none
  | k + 1, x0, x3, x4, x5 => if x0 ≥ x5 then ((some (([(Go.bits .or .i64 128 (Go.bits .and .i64 x0 63)) % 256] : List Int) : List Int)).bind fun y176 => (if y176.length + x3.length < 140737488355328 then (beadleref05_Bytes.l0 k (x0 / 64) (y176 ++ x3) (wrap64 (x4 + x5)) (wrap64 (Int.tdiv x5 2))) else (none))) else ((some (([(Go.bits .or .i64 x4 x0) % 256] : List Int) : List Int)).bind fun y182 => (if y182.length + x3.length < 140737488355328 then (some (strOfNums (y182 ++ x3))) else (none)))
def beadleref05_Bytes.f (k : Nat) (a0 : Int) : Option (ByteArray) := if a0 < 128 then (some (strOfNums (([(a0) % 256] : List Int)))) else (beadleref05_Bytes.l0 k (a0 / 64) (([(Go.bits .or .i64 128 (Go.bits .and .i64 a0 63)) % 256] : List Int)) 192 32)
set_option maxHeartbeats 8000000 in
set_option maxRecDepth 100000 in
theorem beadleref05_Bytes.calls (k : Nat) (a0 : Int) (r : ByteArray) (w : World) (h : beadleref05_Bytes.f k a0 = some r) :
    Calls Tryz.prog 60 #[.int .i64 a0] w fun e w' => e = .returned (.string r) ∧ Below w.heap.size w w' := by
  have HB := Aside0.mk (Below.refl w.heap.size w)
  have H : (if a0 < 128 then (some (strOfNums (([(a0) % 256] : List Int)))) else (beadleref05_Bytes.l0 k (a0 / 64) (([(Go.bits .or .i64 128 (Go.bits .and .i64 a0 63)) % 256] : List Int)) 192 32)) = some r := h
  clear h
  by_cases c2 : a0 < 128
  · rw [if_pos c2] at H
    have c2b0 : decide (a0 < 128) = true := decide_eq_true c2
    clear c2
    obtain ⟨y170, hy170⟩ : ∃ y_ : List Int, y_ = (([(a0) % 256] : List Int)) := ⟨_, rfl⟩
    replace H : (some (strOfNums y170)) = some r := by first | (rw [hy170]; with_reducible exact H) | (have H2_ := (Option.bind_some _ _).symm.trans H; rw [hy170]; with_reducible exact H2_) | (have H2_ := (Option.bind_some _ _).symm.trans H; with_reducible exact H2_) | with_reducible exact H | (rw [hy170]; exact H) | exact H
    have Ny170 := Aside0.mk hy170
    clear hy170
    obtain rfl := Option.some.inj H
    go_enter Tryz.func60, Tryz.ntmps60
    go_wp2_with (first | ((with_reducible refine gate_dst (N := 10) rfl ?_); refine Kd.R_lit (Kd.int .u8) _ 5 ?hg (N := 10) ?hd (xs := ([(a0) % 256] : List Int)) (inner := [.int .u8 ((a0) % 256)]) (ok := fun _ => True) (okp := fun _ => True) ?hr ?hp (fun _ hk => hk) trivial (Below.refl _ _) (Nat.le_refl _) (by simp) ?_; (case hd => rfl); (case hg => rfl); (case hr => first | (go_simp; done) | (go_simp; rfl)); (case hp => exact (Reps.one (show Kd.M (Kd.int .u8) _ _ _ ((a0) % 256) [.int .u8 ((a0) % 256)] from rfl) (Reps.none _ _))); intro v171 w3 ho4 hb hg_ hnew_; clear hg_ hnew_; (first | rw [← Ny170.out] at ho4 | (simp only [Int.reduceToNat] at ho4; rw [← Ny170.out] at ho4)); have n0_ := Aside0.mk (Kd.R_lower ho4 (below_size (by repeat (first | (with_reducible first | exact HB.out | apply below_alloc | apply pw_below_drewN | apply below_drew1) | exact HB.out)))); have n1_ := Aside0.mk (below_step (by repeat (first | (with_reducible first | exact HB.out | apply below_alloc | apply pw_below_drewN | apply below_drew1) | exact HB.out)) hb); clear HB; have HO172 := n0_; have HB := n1_; clear n0_ n1_; clear hb ho4; have hcv5 := own_string (P := Tryz.prog) Tryz.underlying51 Tryz.underlying5 Tryz.underlying9 (Kd.own_of_R HO172.out)))
    go_ret
    exact ⟨by first | rfl | (simp [errW_none, errW_some] <;> rfl) | (simp [*, errW_none, errW_some] <;> rfl), by repeat (first | (with_reducible first | exact HB.out | apply below_alloc | apply pw_below_drewN | apply below_drew1) | exact HB.out)⟩
  · rw [if_neg c2] at H
    have c2b0 : decide (a0 < 128) = false := decide_eq_false c2
    clear c2
    obtain ⟨y173, hy173⟩ : ∃ y_ : List Int, y_ = (([(Go.bits .or .i64 128 (Go.bits .and .i64 a0 63)) % 256] : List Int)) := ⟨_, rfl⟩
    replace H : (beadleref05_Bytes.l0 k (a0 / 64) y173 192 32) = some r := by first | (rw [hy173]; with_reducible exact H) | (have H2_ := (Option.bind_some _ _).symm.trans H; rw [hy173]; with_reducible exact H2_) | (have H2_ := (Option.bind_some _ _).symm.trans H; with_reducible exact H2_) | with_reducible exact H | (rw [hy173]; exact H) | exact H
    have Ny173 := Aside0.mk hy173
    clear hy173
    have H' := Aside0.mk H
    clear H
    go_enter Tryz.func60, Tryz.ntmps60
    go_wp2_with (first | ((with_reducible refine gate_dst (N := 16) rfl ?_); refine Kd.R_lit (Kd.int .u8) _ 5 ?hg (N := 16) ?hd (xs := ([(Go.bits .or .i64 128 (Go.bits .and .i64 a0 63)) % 256] : List Int)) (inner := [.int .u8 ((Go.bits .or .i64 128 (Go.bits .and .i64 a0 63)) % 256)]) (ok := fun _ => True) (okp := fun _ => True) ?hr ?hp (fun _ hk => hk) trivial (Below.refl _ _) (Nat.le_refl _) (by simp) ?_; (case hd => rfl); (case hg => rfl); (case hr => first | (go_simp; done) | (go_simp; rfl)); (case hp => exact (Reps.one (show Kd.M (Kd.int .u8) _ _ _ ((Go.bits .or .i64 128 (Go.bits .and .i64 a0 63)) % 256) [.int .u8 ((Go.bits .or .i64 128 (Go.bits .and .i64 a0 63)) % 256)] from rfl) (Reps.none _ _))); intro v174 w6 ho7 hb hg_ hnew_; clear hg_ hnew_; (first | rw [← Ny173.out] at ho7 | (simp only [Int.reduceToNat] at ho7; rw [← Ny173.out] at ho7)); have n0_ := Aside0.mk (Kd.R_lower ho7 (below_size (by repeat (first | (with_reducible first | exact HB.out | apply below_alloc | apply pw_below_drewN | apply below_drew1) | exact HB.out)))); have n1_ := Aside0.mk (below_step (by repeat (first | (with_reducible first | exact HB.out | apply below_alloc | apply pw_below_drewN | apply below_drew1) | exact HB.out)) hb); clear HB; have HO175 := n0_; have HB := n1_; clear n0_ n1_; clear hb ho7))
    go_loopg [0, 3, 4, 5] k (fun kq v0 v3 v4 v5 w' => ∃ (x0_1 : Int) (x3_1 : List Int) (x4_1 : Int) (x5_1 : Int), v0 = .int .i64 x0_1 ∧ v4 = .int .i64 x4_1 ∧ v5 = .int .i64 x5_1 ∧ Aside0 (beadleref05_Bytes.l0 kq x0_1 x3_1 x4_1 x5_1 = some r) ∧ Aside0 (kq ≤ k) ∧ Aside0 (Kd.R (Kd.int .u8) 5 w' w.heap.size (fun _ => True) v3 x3_1) ∧ Aside0 (Below w.heap.size w w'))
    case atStart => exact ⟨(a0 / 64), (y173), (192), (32), (by first | rfl | (simp; done) | (simp [*]; done)), (by first | rfl | (simp; done) | (simp [*]; done)), (by first | rfl | (simp; done) | (simp [*]; done)), H', ⟨Nat.le_refl _⟩, ⟨by (with_reducible repeat (first | apply Kd.R_alloc | apply Kd.R_drewN | apply Kd.R_drew)); exact HO175.out⟩, ⟨by repeat (first | (with_reducible first | exact HB.out | apply below_alloc | apply pw_below_drewN | apply below_drew1) | exact HB.out)⟩⟩
    case round =>
      clear H'
      try clear c2
      try clear c2b0
      try clear p2
      try clear hcv5
      try clear c6
      obtain ⟨x0_1, x3_1, x4_1, x5_1, rfl, rfl, rfl, HA, HK1, HO_3, HB⟩ := hrel
      cases gk with
      | zero => exact absurd HA.out (by simp [beadleref05_Bytes.l0])
      | succ k1 =>
        have H := HA.out
        clear HA
        simp only [beadleref05_Bytes.l0] at H
        by_cases c8 : x0_1 ≥ x5_1
        · rw [if_pos c8] at H
          have c8b0 : decide (x5_1 ≤ x0_1) = true := decide_eq_true c8
          clear c8
          obtain ⟨y176, hy176⟩ : ∃ y_ : List Int, y_ = (([(Go.bits .or .i64 128 (Go.bits .and .i64 x0_1 63)) % 256] : List Int)) := ⟨_, rfl⟩
          replace H : (if y176.length + x3_1.length < 140737488355328 then (beadleref05_Bytes.l0 k1 (x0_1 / 64) (y176 ++ x3_1) (wrap64 (x4_1 + x5_1)) (wrap64 (Int.tdiv x5_1 2))) else (none)) = some r := by first | (rw [hy176]; with_reducible exact H) | (have H2_ := (Option.bind_some _ _).symm.trans H; rw [hy176]; with_reducible exact H2_) | (have H2_ := (Option.bind_some _ _).symm.trans H; with_reducible exact H2_) | with_reducible exact H | (rw [hy176]; exact H) | exact H
          have Ny176 := Aside0.mk hy176
          clear hy176
          by_cases c9 : y176.length + x3_1.length < 140737488355328
          · rw [if_pos c9] at H
            have LMc9 := Aside0.mk c9
            clear c9
            obtain ⟨y179, hy179⟩ : ∃ y_ : List Int, y_ = (y176 ++ x3_1) := ⟨_, rfl⟩
            replace H : (beadleref05_Bytes.l0 k1 (x0_1 / 64) y179 (wrap64 (x4_1 + x5_1)) (wrap64 (Int.tdiv x5_1 2))) = some r := by first | (rw [hy179]; with_reducible exact H) | (have H2_ := (Option.bind_some _ _).symm.trans H; rw [hy179]; with_reducible exact H2_) | (have H2_ := (Option.bind_some _ _).symm.trans H; with_reducible exact H2_) | with_reducible exact H | (rw [hy179]; exact H) | exact H
            have Ny179 := Aside0.mk hy179
            clear hy179
            have H' := Aside0.mk H
            clear H
            go_wp2_with (first | ((with_reducible refine gate_dst (N := 26) rfl ?_); refine Kd.R_lit (Kd.int .u8) _ 5 ?hg (N := 26) ?hd (xs := ([(Go.bits .or .i64 128 (Go.bits .and .i64 x0_1 63)) % 256] : List Int)) (inner := [.int .u8 ((Go.bits .or .i64 128 (Go.bits .and .i64 x0_1 63)) % 256)]) (ok := fun _ => True) (okp := fun _ => True) ?hr ?hp (fun _ hk => hk) trivial (Below.refl _ _) (Nat.le_refl _) (by simp) ?_; (case hd => rfl); (case hg => rfl); (case hr => first | (go_simp; done) | (go_simp; rfl)); (case hp => exact (Reps.one (show Kd.M (Kd.int .u8) _ _ _ ((Go.bits .or .i64 128 (Go.bits .and .i64 x0_1 63)) % 256) [.int .u8 ((Go.bits .or .i64 128 (Go.bits .and .i64 x0_1 63)) % 256)] from rfl) (Reps.none _ _))); intro v177 w10 ho11 hb hg_ hnew_; clear hg_ hnew_; (first | rw [← Ny176.out] at ho11 | (simp only [Int.reduceToNat] at ho11; rw [← Ny176.out] at ho11)); have n0_ := Aside0.mk (Kd.R_elder' (by (with_reducible repeat (first | apply Kd.R_alloc | apply Kd.R_drewN | apply Kd.R_drew)); exact HO_3.out) (Kd.R_base ho11) hb); have n1_ := Aside0.mk (Kd.R_lower (Kd.R_new' ho11 (Kd.R_lt (by (with_reducible repeat (first | apply Kd.R_alloc | apply Kd.R_drewN | apply Kd.R_drew)); exact HO_3.out))) (below_size (by repeat (first | (with_reducible first | exact HB.out | apply below_alloc | apply pw_below_drewN | apply below_drew1) | exact HB.out)))); have n2_ := Aside0.mk (below_step (by repeat (first | (with_reducible first | exact HB.out | apply below_alloc | apply pw_below_drewN | apply below_drew1) | exact HB.out)) hb); clear HO_3; clear HB; have HO_3 := n0_; have HO178 := n1_; have HB := n2_; clear n0_ n1_ n2_; clear hb ho11; obtain ⟨Ao13, co13, eo13⟩ := Kd.R_slice HO_3.out; subst eo13) | ((with_reducible refine gate_builtin (b := .append) (xs := #[.tmp 26, .tmp 27]) rfl ?_); at_builtin; refine Kd.R_append_rows (Kd.int .u8) (w0 := w) w.heap.size rfl (.tmp 26) (.tmp 27) 51 5 (.int .u8 0) 1 rfl Tryz.underlying51 info5 rfl (by decide) (by omega) v177 y176 x3_1 _ _ _ (fun k_ => some k_ ≠ (.slice Ao13 x3_1.length co13 : Value).ownBlock) (fun _ => False) rfl rfl ?aO ?aR (fun _ _ h => h) (fun _ h => h.elim) ?aF ?aB ?aS ?aL ?_; (case aR => repeat (first | exact (Kd.R_reads' HO_3.out).2.2 | (with_reducible refine Kd.C_alloc ?_ _) | (with_reducible refine Kd.C_drewN ?_ _) | (with_reducible refine Kd.C_drew ?_))); (case aB => exact (by repeat (first | (with_reducible first | exact HB.out | apply below_alloc | apply pw_below_drewN | apply below_drew1) | exact HB.out))); (case aF => exact (fun k_ hk => Kd.fresh' (Kd.R_lt (by (with_reducible repeat (first | apply Kd.R_alloc | apply Kd.R_drewN | apply Kd.R_drew)); exact HO_3.out)) k_ hk)); (case aO => exact (by (with_reducible repeat (first | apply Kd.R_alloc | apply Kd.R_drewN | apply Kd.R_drew)); exact Kd.R_mono HO178.out (fun _ hk => hk.2))); (case aS => exact (below_size (by repeat (first | (with_reducible first | exact HB.out | apply below_alloc | apply pw_below_drewN | apply below_drew1) | exact HB.out)))); (case aL => have := LMc9.out; omega); intro v180 w12 ho hb hg hat; rw [← Ny179.out] at ho; have n0_ := Aside0.mk (Kd.R_after (ok := (fun _ => True)) (by (with_reducible repeat (first | apply Kd.R_alloc | apply Kd.R_drewN | apply Kd.R_drew)); exact HO_3.out) hg hat); have n1_ := Aside0.mk (hb); have n2_ := Aside0.mk (ho); clear HO_3; clear HB; clear HO178; have HO_3 := n0_; have HB := n1_; have HO181 := n2_; clear n0_ n1_ n2_; clear ho hb hg hat))
            go_roundg k1
            case measure => have := HK1.out; omega
            case rel => exact ⟨(x0_1 / 64), (y179), (wrap64 (x4_1 + x5_1)), (wrap64 (Int.tdiv x5_1 2)), (by first | rfl | (simp; done) | (simp [*]; done)), (by first | rfl | (simp; done) | (simp [*]; done)), (by first | rfl | (simp; done) | (simp [*]; done)), H', ⟨by have := HK1.out; omega⟩, ⟨by (with_reducible repeat (first | apply Kd.R_alloc | apply Kd.R_drewN | apply Kd.R_drew)); exact Kd.R_mono HO181.out (fun _ hk => trivial)⟩, ⟨by repeat (first | (with_reducible first | exact HB.out | apply below_alloc | apply pw_below_drewN | apply below_drew1) | exact HB.out)⟩⟩
          · rw [if_neg c9] at H
            exact absurd H (by simp)
        · rw [if_neg c8] at H
          have c8b0 : decide (x5_1 ≤ x0_1) = false := decide_eq_false c8
          clear c8
          obtain ⟨y182, hy182⟩ : ∃ y_ : List Int, y_ = (([(Go.bits .or .i64 x4_1 x0_1) % 256] : List Int)) := ⟨_, rfl⟩
          replace H : (if y182.length + x3_1.length < 140737488355328 then (some (strOfNums (y182 ++ x3_1))) else (none)) = some r := by first | (rw [hy182]; with_reducible exact H) | (have H2_ := (Option.bind_some _ _).symm.trans H; rw [hy182]; with_reducible exact H2_) | (have H2_ := (Option.bind_some _ _).symm.trans H; with_reducible exact H2_) | with_reducible exact H | (rw [hy182]; exact H) | exact H
          have Ny182 := Aside0.mk hy182
          clear hy182
          by_cases c14 : y182.length + x3_1.length < 140737488355328
          · rw [if_pos c14] at H
            have LMc14 := Aside0.mk c14
            clear c14
            obtain ⟨y185, hy185⟩ : ∃ y_ : List Int, y_ = (y182 ++ x3_1) := ⟨_, rfl⟩
            replace H : (some (strOfNums y185)) = some r := by first | (rw [hy185]; with_reducible exact H) | (have H2_ := (Option.bind_some _ _).symm.trans H; rw [hy185]; with_reducible exact H2_) | (have H2_ := (Option.bind_some _ _).symm.trans H; with_reducible exact H2_) | with_reducible exact H | (rw [hy185]; exact H) | exact H
            have Ny185 := Aside0.mk hy185
            clear hy185
            obtain rfl := Option.some.inj H
            go_wp2_with (first | ((with_reducible refine gate_dst (N := 40) rfl ?_); refine Kd.R_lit (Kd.int .u8) _ 5 ?hg (N := 40) ?hd (xs := ([(Go.bits .or .i64 x4_1 x0_1) % 256] : List Int)) (inner := [.int .u8 ((Go.bits .or .i64 x4_1 x0_1) % 256)]) (ok := fun _ => True) (okp := fun _ => True) ?hr ?hp (fun _ hk => hk) trivial (Below.refl _ _) (Nat.le_refl _) (by simp) ?_; (case hd => rfl); (case hg => rfl); (case hr => first | (go_simp; done) | (go_simp; rfl)); (case hp => exact (Reps.one (show Kd.M (Kd.int .u8) _ _ _ ((Go.bits .or .i64 x4_1 x0_1) % 256) [.int .u8 ((Go.bits .or .i64 x4_1 x0_1) % 256)] from rfl) (Reps.none _ _))); intro v183 w15 ho16 hb hg_ hnew_; clear hg_ hnew_; (first | rw [← Ny182.out] at ho16 | (simp only [Int.reduceToNat] at ho16; rw [← Ny182.out] at ho16)); have n0_ := Aside0.mk (Kd.R_elder' (by (with_reducible repeat (first | apply Kd.R_alloc | apply Kd.R_drewN | apply Kd.R_drew)); exact HO_3.out) (Kd.R_base ho16) hb); have n1_ := Aside0.mk (Kd.R_lower (Kd.R_new' ho16 (Kd.R_lt (by (with_reducible repeat (first | apply Kd.R_alloc | apply Kd.R_drewN | apply Kd.R_drew)); exact HO_3.out))) (below_size (by repeat (first | (with_reducible first | exact HB.out | apply below_alloc | apply pw_below_drewN | apply below_drew1) | exact HB.out)))); have n2_ := Aside0.mk (below_step (by repeat (first | (with_reducible first | exact HB.out | apply below_alloc | apply pw_below_drewN | apply below_drew1) | exact HB.out)) hb); clear HO_3; clear HB; have HO_3 := n0_; have HO184 := n1_; have HB := n2_; clear n0_ n1_ n2_; clear hb ho16; obtain ⟨Ao18, co18, eo18⟩ := Kd.R_slice HO_3.out; subst eo18) | ((with_reducible refine gate_builtin (b := .append) (xs := #[.tmp 40, .tmp 41]) rfl ?_); at_builtin; refine Kd.R_append_rows (Kd.int .u8) (w0 := w) w.heap.size rfl (.tmp 40) (.tmp 41) 51 5 (.int .u8 0) 1 rfl Tryz.underlying51 info5 rfl (by decide) (by omega) v183 y182 x3_1 _ _ _ (fun k_ => some k_ ≠ (.slice Ao18 x3_1.length co18 : Value).ownBlock) (fun _ => False) rfl rfl ?aO ?aR (fun _ _ h => h) (fun _ h => h.elim) ?aF ?aB ?aS ?aL ?_; (case aR => repeat (first | exact (Kd.R_reads' HO_3.out).2.2 | (with_reducible refine Kd.C_alloc ?_ _) | (with_reducible refine Kd.C_drewN ?_ _) | (with_reducible refine Kd.C_drew ?_))); (case aB => exact (by repeat (first | (with_reducible first | exact HB.out | apply below_alloc | apply pw_below_drewN | apply below_drew1) | exact HB.out))); (case aF => exact (fun k_ hk => Kd.fresh' (Kd.R_lt (by (with_reducible repeat (first | apply Kd.R_alloc | apply Kd.R_drewN | apply Kd.R_drew)); exact HO_3.out)) k_ hk)); (case aO => exact (by (with_reducible repeat (first | apply Kd.R_alloc | apply Kd.R_drewN | apply Kd.R_drew)); exact Kd.R_mono HO184.out (fun _ hk => hk.2))); (case aS => exact (below_size (by repeat (first | (with_reducible first | exact HB.out | apply below_alloc | apply pw_below_drewN | apply below_drew1) | exact HB.out)))); (case aL => have := LMc14.out; omega); intro v186 w17 ho hb hg hat; rw [← Ny185.out] at ho; have n0_ := Aside0.mk (Kd.R_after (ok := (fun _ => True)) (by (with_reducible repeat (first | apply Kd.R_alloc | apply Kd.R_drewN | apply Kd.R_drew)); exact HO_3.out) hg hat); have n1_ := Aside0.mk (hb); have n2_ := Aside0.mk (ho); clear HO_3; clear HB; clear HO184; have HO_3 := n0_; have HB := n1_; have HO187 := n2_; clear n0_ n1_ n2_; clear ho hb hg hat; have hcv19 := own_string (P := Tryz.prog) Tryz.underlying51 Tryz.underlying5 Tryz.underlying9 (Kd.own_of_R HO187.out)))
            go_ret
            exact ⟨by first | rfl | (simp [errW_none, errW_some] <;> rfl) | (simp [*, errW_none, errW_some] <;> rfl), by repeat (first | (with_reducible first | exact HB.out | apply below_alloc | apply pw_below_drewN | apply below_drew1) | exact HB.out)⟩
          · rw [if_neg c14] at H
            exact absurd H (by simp)
end Go.Proofs.YtomdidopflebjaaGreatDoor.PR
namespace Go.Proofs.YtomdidopflebjaaGreatDoor.PM
open Go.RowKit Go.Proofs.YtomdidopflebjaaGreatDoorW.PrintWords Go.Proofs.YtomdidopflebjaaGreatDoorW.PrintLast Go.Proofs.YtomdidopflebjaaGreatDoorW.PrintMore
/-- The reference's tree: a block with the head of a row of one's own, whose rows' blocks are all ok. -/
structure RefAt (ok : Nat → Prop) (base : Nat) (W : World) (g : Nat) (T : List S68) : Prop where
  low : base ≤ g
  row : ∃ v, W.heap[g]? = some (.cells #[v] 105 (0, 0)) ∧ Kd.R k68 68 W base ok v T
theorem TFrame.Rok {α : Type} {d : Kd α} {ts : List Nat} {ok : Nat → Prop} {e base : Nat} {w w' : World} {v : Value} {xs : List α} (h : TFrame ts w w') (hr : d.R e w base ok v xs) (ht : ∀ q, q ∈ e :: d.E → q ∉ ts) : d.R e w' base ok v xs := by
  refine Kd.R_mono (Kd.R_step (Kd.R_bound hr) (fun k hk1 hk2 => ?_)) (fun _ hk => hk.1)
  obtain ⟨_, _, _, q, hq, cells, hc⟩ := hk1
  rw [hc]
  exact h.blk hc (ht q hq)
theorem RefAt.frame {ok : Nat → Prop} {ts : List Nat} {b0 g : Nat} {w w' : World} {T : List S68} (hT : RefAt ok b0 w g T) (h : TFrame ts w w') (ht : ∀ q, q ∈ 105 :: 68 :: k68.E → q ∉ ts) : RefAt ok b0 w' g T := by
  obtain ⟨hl, v, hb, hr⟩ := hT
  exact ⟨hl, v, h.blk hb (ht 105 (by simp)), h.Rok hr (fun q hq => ht q (by simp at hq ⊢; exact .inr hq))⟩
theorem RefAt.below {ok : Nat → Prop} {b0 g : Nat} {w w' : World} {T : List S68} (hT : RefAt ok b0 w g T) (h : Below w.heap.size w w') : RefAt ok b0 w' g T :=
  hT.frame (TFrame.of_below (ts := []) h) (by simp)
theorem RefAt.mono {ok ok' : Nat → Prop} {b0 b1 g : Nat} {w : World} {T : List S68} (hT : RefAt ok b0 w g T) (hb : b1 ≤ b0) (h : ∀ k, ok k → k < w.heap.size → ok' k) : RefAt ok' b1 w g T := by
  obtain ⟨hl, v, hb1, hr⟩ := hT
  exact ⟨Nat.le_trans hb hl, v, hb1, Kd.R_lower (Kd.R_mono (Kd.R_bound hr) (fun k hk => h k hk.1 hk.2.2.1)) hb⟩
theorem RefAt.C {ok : Nat → Prop} {base g : Nat} {W : World} {T : List S68} (h : RefAt ok base W g T) : Kd.C k105 W (some ⟨g, 0, none⟩) ([⟨T⟩] : List S105).length [⟨T⟩] := by
  obtain ⟨_, v, hb, hr⟩ := h
  refine ⟨rfl, by simp, fun _ => ⟨⟨g, 0, none⟩, rfl, fun j p hp => ?_⟩⟩
  obtain ⟨rfl, rfl⟩ : j = 0 ∧ p = ⟨T⟩ := by
    match j, hp with
    | 0, hp => exact ⟨rfl, by simpa using hp.symm⟩
    | j + 1, hp => simp at hp
  obtain ⟨A, c, e⟩ := Kd.R_slice hr
  subst e
  refine ⟨[.slice A T.length c], rfl, k105_mk W ⟨T⟩ (Kd.R_reads' hr).2.1 (Kd.R_reads' hr).2.2, fun i u hi => ?_⟩
  match i, hi with
  | 0, hi =>
    obtain rfl : Value.slice A T.length c = u := by simpa using hi
    exact (blk_cell hb 0).trans rfl
structure RefRow (ok : Nat → Prop) (base : Nat) (W : World) (g b cv : Nat) (T : List S68) : Prop where
  low : base ≤ g
  blk : W.heap[g]? = some (.cells #[.slice (some ⟨b, 0, none⟩) T.length cv] 105 (0, 0))
  row : Kd.R k68 68 W base ok (.slice (some ⟨b, 0, none⟩) T.length cv) T
theorem RefAt.rowOf {ok : Nat → Prop} {base g : Nat} {W : World} {T : List S68} (h : RefAt ok base W g T) (hT : 0 < T.length) : ∃ b cv, RefRow ok base W g b cv T := by
  obtain ⟨hl, v, hb, hr⟩ := h
  obtain ⟨h0, inner, hown, hrep⟩ := hr
  rcases hown.2 with ⟨_, hn⟩ | ⟨b, cv, _, rfl, _⟩
  · omega
  exact ⟨b, cv, hl, hb, ⟨h0, inner, hown, hrep⟩⟩
theorem RefRow.at {ok : Nat → Prop} {base g b cv : Nat} {W : World} {T : List S68} (h : RefRow ok base W g b cv T) : RefAt ok base W g T := ⟨h.low, _, h.blk, h.row⟩
theorem RefRow.below {ok : Nat → Prop} {base g b cv : Nat} {w w' : World} {T : List S68} (h : RefRow ok base w g b cv T) (hb : Below w.heap.size w w') : RefRow ok base w' g b cv T :=
  ⟨h.low, blk_below h.blk hb, Kd.R_below h.row hb⟩
theorem RefRow.ne {ok : Nat → Prop} {base g b cv : Nat} {W : World} {T : List S68} (h : RefRow ok base W g b cv T) : g ≠ b := fun e => by
  obtain ⟨cs, hc⟩ := Kd.R_typed h.row b rfl
  rw [← e, h.blk] at hc
  injection hc with hc
  injection hc with _ hc
  exact absurd hc (by decide)
theorem RefRow.lt {ok : Nat → Prop} {base g b cv : Nat} {W : World} {T : List S68} (h : RefRow ok base W g b cv T) : b < W.heap.size := by
  obtain ⟨cs, hc⟩ := Kd.R_typed h.row b rfl
  exact blk_lt hc
theorem RefRow.base {ok : Nat → Prop} {base g b cv : Nat} {W : World} {T : List S68} (h : RefRow ok base W g b cv T) : base ≤ b := Kd.R_base h.row b (by simp [Value.ownBlock])
theorem RefRow.cells {ok : Nat → Prop} {base g b cv : Nat} {W : World} {T : List S68} (h : RefRow ok base W g b cv T) (i : Nat) (hi : i < T.length) :
    ∃ v4 v6, Kd.R k72 72 W base (fun k => ok k ∧ k ≠ b) v4 (rd_T68 T i).f4 ∧ (Kd.int .i64).R 3 W base (fun k => ok k ∧ k ≠ b) v6 (rd_T68 T i).f6 ∧ ∀ j u, [Value.int .i64 (rd_T68 T i).f0, .int .i64 (rd_T68 T i).f1, .string (rd_T68 T i).f2, .string (rd_T68 T i).f3, v4, .int .i64 (rd_T68 T i).f5, v6][j]? = some u → W.cell? ⟨b, i * 7 + j, none⟩ = some u := by
  obtain ⟨c, hcl, hM, hcc, _⟩ := Kd.R_elem h.row z68 (i : Int) (by omega) (by omega)
  obtain ⟨v4, v6, rfl, hv4, hv6⟩ := k68_openM hM
  exact ⟨v4, v6, hv4, hv6, fun j u hj => hcc j u hj⟩
theorem RefRow.frozen {ok : Nat → Prop} {base g b cv : Nat} {W : World} {T : List S68} (h : RefRow ok base W g b cv T) (j : Nat) : W.frozen? ⟨b, j, none⟩ = false := by
  obtain ⟨cs, hc⟩ := Kd.R_typed h.row b rfl
  exact blk_frozen hc _
theorem RefRow.putFrame {ok : Nat → Prop} {base g b cv : Nat} {W : World} {T : List S68} (h : RefRow ok base W g b cv T) (j : Nat) (v : Value) : TFrame [68, 105] W (W.setCell ⟨b, j, none⟩ v) := by
  obtain ⟨cs, hc⟩ := Kd.R_typed h.row b rfl
  exact TFrame.setCell hc (by decide) v
def putPar (T : List S68) (i : Nat) (p : Int) : List S68 := T.set i ⟨(rd_T68 T i).f0, (rd_T68 T i).f1, (rd_T68 T i).f2, (rd_T68 T i).f3, (rd_T68 T i).f4, p, (rd_T68 T i).f6⟩
def putKids (T : List S68) (i : Nat) (l : List Int) : List S68 := T.set i ⟨(rd_T68 T i).f0, (rd_T68 T i).f1, (rd_T68 T i).f2, (rd_T68 T i).f3, (rd_T68 T i).f4, (rd_T68 T i).f5, l⟩
def putDat (T : List S68) (i : Nat) (d : ByteArray) : List S68 := T.set i ⟨(rd_T68 T i).f0, (rd_T68 T i).f1, (rd_T68 T i).f2, d, (rd_T68 T i).f4, (rd_T68 T i).f5, (rd_T68 T i).f6⟩
theorem RefRow.set1 {ok : Nat → Prop} {base g b cv : Nat} {W : World} {T : List S68} (h : RefRow ok base W g b cv T) (i : Nat) (hi : i < T.length) (j : Nat) (u : Value) (x' : S68) (hj : j < 7)
    (hM : ∀ v4 v6, Kd.R k72 72 W base (fun k => ok k ∧ k ≠ b) v4 (rd_T68 T i).f4 → (Kd.int .i64).R 3 W base (fun k => ok k ∧ k ≠ b) v6 (rd_T68 T i).f6 → k68.M W base (fun k => ok k ∧ k ≠ b) x' ([Value.int .i64 (rd_T68 T i).f0, .int .i64 (rd_T68 T i).f1, .string (rd_T68 T i).f2, .string (rd_T68 T i).f3, v4, .int .i64 (rd_T68 T i).f5, v6].take j ++ [u] ++ [Value.int .i64 (rd_T68 T i).f0, .int .i64 (rd_T68 T i).f1, .string (rd_T68 T i).f2, .string (rd_T68 T i).f3, v4, .int .i64 (rd_T68 T i).f5, v6].drop (j + 1))) :
    RefRow ok base (W.setCell ⟨b, i * 7 + j, none⟩ u) g b cv (T.set i x') := by
  obtain ⟨c, hcl, hMM, hcc, _⟩ := Kd.R_elem h.row z68 (i : Int) (by omega) (by omega)
  obtain ⟨v4, v6, rfl, hv4, hv6⟩ := k68_openM hMM
  obtain ⟨h1, _⟩ := Kd.R_seg h.row (i : Int) (by omega) (by omega) (seg := [u]) (j := j) hcl hcc (by show j + 1 ≤ 7; omega) (hM v4 v6 hv4 hv6) (fun k hk => hk)
  refine ⟨h.low, ?_, ?_⟩
  · rw [List.length_set]
    exact blk_far h.blk h.ne (p := ⟨b, i * 7 + j, none⟩) _
  · rw [List.length_set]
    exact h1
theorem RefRow.putPar {ok : Nat → Prop} {base g b cv : Nat} {W : World} {T : List S68} (h : RefRow ok base W g b cv T) (i : Nat) (hi : i < T.length) (p : Int) : RefRow ok base (W.setCell ⟨b, i * 7 + 5, none⟩ (.int .i64 p)) g b cv (putPar T i p) :=
  h.set1 i hi 5 _ _ (by decide) (fun _ _ h4 h6 => k68_mkM W base _ ⟨(rd_T68 T i).f0, (rd_T68 T i).f1, (rd_T68 T i).f2, (rd_T68 T i).f3, (rd_T68 T i).f4, p, (rd_T68 T i).f6⟩ h4 h6)
theorem RefRow.putKids {ok : Nat → Prop} {base g b cv : Nat} {W : World} {T : List S68} (h : RefRow ok base W g b cv T) (i : Nat) (hi : i < T.length) (l : List Int) (v : Value) (hv : (Kd.int .i64).R 3 W base (fun k => ok k ∧ k ≠ b) v l) : RefRow ok base (W.setCell ⟨b, i * 7 + 6, none⟩ v) g b cv (putKids T i l) :=
  h.set1 i hi 6 _ _ (by decide) (fun _ _ h4 _ => k68_mkM W base _ ⟨(rd_T68 T i).f0, (rd_T68 T i).f1, (rd_T68 T i).f2, (rd_T68 T i).f3, (rd_T68 T i).f4, (rd_T68 T i).f5, l⟩ h4 hv)
theorem RefRow.putDat {ok : Nat → Prop} {base g b cv : Nat} {W : World} {T : List S68} (h : RefRow ok base W g b cv T) (i : Nat) (hi : i < T.length) (d : ByteArray) : RefRow ok base (W.setCell ⟨b, i * 7 + 3, none⟩ (.string d)) g b cv (putDat T i d) :=
  h.set1 i hi 3 _ _ (by decide) (fun _ _ h4 h6 => k68_mkM W base _ ⟨(rd_T68 T i).f0, (rd_T68 T i).f1, (rd_T68 T i).f2, d, (rd_T68 T i).f4, (rd_T68 T i).f5, (rd_T68 T i).f6⟩ h4 h6)
def refOnly : List S68 := [⟨0, 0, ⟨#[]⟩, ⟨#[]⟩, [], -1, []⟩]
set_option maxHeartbeats 4000000 in
set_option maxRecDepth 100000 in
theorem rnew_any (w : World) : Calls Tryz.prog 23 #[] w fun e w' => ∃ g, e = .returned (.pointer (some ⟨g, 0, none⟩)) ∧ RefAt (fun _ => True) w.heap.size w' g refOnly ∧ Below w.heap.size w w' := by
  have hu68 := Tryz.underlying68
  have hu105 := Tryz.underlying105
  go_enter Tryz.func23, Tryz.ntmps23
  go_wp2
  go_ret
  have ho := World.ownsRow_lit (base := w.heap.size) (e := 68) (size := 7) w #[.int .i64 0, .int .i64 0, .string ⟨#[]⟩, .string ⟨#[]⟩, .slice none 0 0, .int .i64 (-1), .slice none 0 0] 1 (Nat.le_refl _) (by decide) (by rfl)
  refine ⟨w.heap.size + 1, rfl, ⟨Nat.le_succ _, _, ?_, fun _ _ => trivial, _, ho.alloc _, ?_⟩, ?_⟩
  · have h := heap_alloc_new (w.alloc (.cells #[.int .i64 0, .int .i64 0, .string ⟨#[]⟩, .string ⟨#[]⟩, .slice none 0 0, .int .i64 (-1), .slice none 0 0] 68)) (.cells #[.slice (some ⟨w.heap.size, 0, none⟩) 1 1] 105)
    simpa using h
  · exact (Reps.none _ _).snoc (k68_mkM _ _ _ ⟨0, 0, ⟨#[]⟩, ⟨#[]⟩, [], -1, []⟩ (Kd.R_nil _ _ _ _ _) (Kd.R_nil _ _ _ _ _)) (by rfl)
  · exact below_alloc (below_alloc (Below.refl _ _) _) _
end Go.Proofs.YtomdidopflebjaaGreatDoor.PM
namespace Go.Proofs.YtomdidopflebjaaGreatDoor.PM
open Go.RowKit Go.Proofs.YtomdidopflebjaaGreatDoorW.PrintWords Go.Proofs.YtomdidopflebjaaGreatDoorW.PrintLast Go.Proofs.YtomdidopflebjaaGreatDoorW.PrintMore
theorem infoP68 : (Tryz.prog.info? 68).map (fun i => (i.zero, i.size, i.bytes)) = some (some (.agg #[.int .i64 0, .int .i64 0, .string ⟨#[]⟩, .string ⟨#[]⟩, .slice none 0 0, .int .i64 0, .slice none 0 0]), 7, 104) := by kernel_rfl
def rnodeCells (n : S68) (va : Value) : List Value := [.int .i64 n.f0, .int .i64 n.f1, .string n.f2, .string n.f3, va, .int .i64 (-1), .slice none 0 0]
def rfresh (n : S68) : S68 := ⟨n.f0, n.f1, n.f2, n.f3, n.f4, -1, []⟩
theorem rR_ne_tree {ok : Nat → Prop} {base g : Nat} {W : World} {T : List S68} {v : Value} (hb : W.heap[g]? = some (.cells #[v] 105 (0, 0))) (hR0 : Kd.R k68 68 W base ok v T) : some g ≠ v.ownBlock := fun e => by
  obtain ⟨cs, hc⟩ := Kd.R_typed hR0 g e.symm
  rw [hb] at hc
  injection hc with hc
  injection hc with _ hc
  exact absurd hc (by decide)
theorem rmake_parts {ok : Nat → Prop} {base g : Nat} {W W1 : World} {T : List S68} {n : S68} {va v v' : Value} {inner : List Value} {o : Obj} (hb : W.heap[g]? = some (.cells #[v] 105 (0, 0))) (hl : base ≤ g) (hbase : base ≤ W.heap.size) (hok : ∀ k, W.heap.size ≤ k → ok k) (h0 : ∀ k, v.ownBlock = some k → ok k)
    (hown0 : W.ownsRow base 68 7 v T.length inner) (hrep : Reps (k68.M W base (fun k => ok k ∧ some k ≠ v.ownBlock)) 7 T inner) (hva : Kd.R k72 72 W base ok va n.f4)
    (hown : W1.ownsRow base 68 7 v' (T.length + 1) (inner ++ rnodeCells n va)) (hg : (W.alloc o).grownBy W1 v.ownBlock) (hat : v'.ownBlock = v.ownBlock ∨ ∃ b, v'.ownBlock = some b ∧ W.heap.size ≤ b) :
    RefAt ok base (W1.setCell ⟨g, 0, none⟩ v') g (T ++ [rfresh n]) ∧ TFrame [68, 105] W (W1.setCell ⟨g, 0, none⟩ v') ∧ Below base W (W1.setCell ⟨g, 0, none⟩ v') := by
  have hR0 : Kd.R k68 68 W base ok v T := ⟨h0, inner, hown0, hrep⟩
  have hvt := Kd.R_typed hR0
  have hg' : W.grownBy W1 v.ownBlock := (World.grownBy_alloc W o _).trans hg
  have hgne := rR_ne_tree hb hR0
  have hb1 : W1.heap[g]? = some (.cells #[v] 105 (0, 0)) := blk_grown hb hg' hgne
  have hRn : Kd.R k68 68 W1 base ok v' (T ++ [rfresh n]) := by
    refine Kd.R_appended (okp := fun k => ok k ∧ some k ≠ v.ownBlock) h0 hrep ?_ (fun k hk => hk) hok hown hg' hat
    refine k68_mkM W base _ (rfresh n) (v4 := va) ?_ (Kd.R_nil _ _ _ _ _)
    exact Kd.R_apart' hva (fun k hk => hvt k hk) (by decide)
  refine ⟨⟨hl, v', blk_set hb1 0 v', Kd.R_set hRn hb1 (by decide) 0 v'⟩, ?_, ?_⟩
  · refine (TFrame.grown (ts := [68, 105]) hg' (fun k hk => ?_)).trans (TFrame.setCell hb1 (by decide) v')
    obtain ⟨cs, hc⟩ := hvt k hk
    exact ⟨cs, _, _, hc, by decide⟩
  · exact ((Below.refl base W).grown hg' hbase (fun k hk => (own_base hown0 k hk).1)).setCell hl _
set_option maxHeartbeats 16000000 in
set_option maxRecDepth 100000 in
theorem rmake_any {ok : Nat → Prop} (base g : Nat) (W : World) (T : List S68) (n : S68) (va : Value) (hT : RefAt ok base W g T) (hok : ∀ k, W.heap.size ≤ k → ok k) (hbase : base ≤ W.heap.size) (hva : Kd.R k72 72 W base ok va n.f4) (hk1 : 1 ≤ n.f0) (hk2 : n.f0 ≤ 4) (hl : T.length ≤ 1000000) :
    Calls Tryz.prog 24 #[.pointer (some ⟨g, 0, none⟩), .agg #[.int .i64 n.f0, .int .i64 n.f1, .string n.f2, .string n.f3, va, .int .i64 0, .slice none 0 0]] W fun e W' =>
      e = .returned (.int .i64 (T.length : Int)) ∧ RefAt ok base W' g (T ++ [rfresh n]) ∧ TFrame [68, 105] W W' ∧ Below base W W' := by
  obtain ⟨f0, f1, f2, f3, f4, f5, f6⟩ := n
  simp only at hva hk1 hk2 ⊢
  obtain ⟨A4, c4, e4⟩ := Kd.R_slice hva
  subst e4
  have HT := Aside0.mk hT
  have HB := Aside0.mk hbase
  have HOK := Aside0.mk hok
  have HVA0 := Aside0.mk hva
  have HL := Aside0.mk hl
  have b1 : decide (f0 < 1) = false := decide_eq_false (by omega)
  have b2 : decide (4 < f0) = false := decide_eq_false (by omega)
  clear hT hbase hva hk1 hk2 hl hok
  go_enter Tryz.func24, Tryz.ntmps24
  go_upto_region 4 with (fail)
  have hD4 := blk_new W (.cells #[.int .i64 f0, .int .i64 f1, .string f2, .string f3, .slice A4 f4.length c4, .int .i64 (-1), .slice none 0 0] 68)
  have hbl : Below W.heap.size W (W.alloc (.cells #[.int .i64 f0, .int .i64 f1, .string f2, .string f3, .slice A4 f4.length c4, .int .i64 (-1), .slice none 0 0] 68)) := below_alloc (Below.refl _ _) _
  generalize W.alloc (.cells #[.int .i64 f0, .int .i64 f1, .string f2, .string f3, .slice A4 f4.length c4, .int .i64 (-1), .slice none 0 0] 68) = w4 at hbl hD4 ⊢
  have hva := Kd.R_below HVA0.out hbl
  obtain ⟨hlow, v, hblk, hRv⟩ := HT.out.below hbl
  obtain ⟨Av, cv, ev⟩ := Kd.R_slice hRv
  subst ev
  obtain ⟨h0, inner, hown, hrep⟩ := hRv
  have hsz : base ≤ w4.heap.size := Nat.le_trans HB.out hbl.size
  have HBL := Aside0.mk hbl
  have HD4 := Aside0.mk hD4
  have HVA := Aside0.mk hva
  have HBLK := Aside0.mk hblk
  have H0 := Aside0.mk h0
  have HOWN := Aside0.mk hown
  have HREP := Aside0.mk hrep
  have HLOW := Aside0.mk hlow
  have HSZ := Aside0.mk hsz
  clear hbl hD4 hva hlow hblk h0 hown hrep
  go_cut [] (fun wc => Aside0 (RefAt ok base wc g (T ++ [⟨f0, f1, f2, f3, f4, -1, []⟩])) ∧ Aside0 (TFrame [68, 105] w4 wc) ∧ Aside0 (Below base w4 wc))
  case first =>
    obtain ⟨i0, hi0, hz0, hz1, hz2⟩ := info_parts infoP68
    have cg : w4.cell? ⟨g, 0, none⟩ = some (.slice Av T.length cv) := (blk_cell HBLK.out 0).trans rfl
    have cga := fun o => Go.Lib.cell?_alloc_some o cg
    have ce : w4.cell? ⟨W.heap.size, 0, none⟩ = some (.int .i64 f0) ∧ w4.cell? ⟨W.heap.size, 1, none⟩ = some (.int .i64 f1) ∧ w4.cell? ⟨W.heap.size, 2, none⟩ = some (.string f2) ∧ w4.cell? ⟨W.heap.size, 3, none⟩ = some (.string f3) ∧ w4.cell? ⟨W.heap.size, 4, none⟩ = some (.slice A4 f4.length c4) ∧ w4.cell? ⟨W.heap.size, 5, none⟩ = some (.int .i64 (-1)) ∧ w4.cell? ⟨W.heap.size, 6, none⟩ = some (.slice none 0 0) :=
      ⟨(blk_cell HD4.out 0).trans rfl, (blk_cell HD4.out 1).trans rfl, (blk_cell HD4.out 2).trans rfl, (blk_cell HD4.out 3).trans rfl, (blk_cell HD4.out 4).trans rfl, (blk_cell HD4.out 5).trans rfl, (blk_cell HD4.out 6).trans rfl⟩
    obtain ⟨ce0, ce1, ce2, ce3, ce4, ce5, ce6⟩ := ce
    have hu68 := Tryz.underlying68
    have hlen : T.length + 1 ≤ maxLen := by have := HL.out; unfold maxLen; omega
    have hbig : (T.length + 1) * 104 ≤ 140737488355328 := by have := HL.out; omega
    have HNE := Aside0.mk (rR_ne_tree HBLK.out (show Kd.R k68 68 w4 base ok (.slice Av T.length cv) T from ⟨H0.out, inner, HOWN.out, HREP.out⟩))
    go_region_law (refine step_append_lies _ (by rfl) (.tmp 19) (.tmp 21) 103 (by rfl) base 68 i0 _ 7 104 Tryz.underlying103 hi0 hz0 hz1 hz2 rfl (by omega) (.slice Av T.length cv) T.length inner (by rfl) (World.ownsRow.drew (HOWN.out.alloc _)) ⟨w4.heap.size, 0, none⟩ 1 1 (rnodeCells ⟨f0, f1, f2, f3, f4, f5, f6⟩ (.slice A4 f4.length c4)) (by rfl) (by rfl) (World.news_of_block (cs := (rnodeCells ⟨f0, f1, f2, f3, f4, f5, f6⟩ (.slice A4 f4.length c4)).toArray) (t := 68) (fr := (0, 0)) (heap_alloc_new w4 _)) (by simp [rnodeCells, Value.oneCell']) (by omega) hlen hbig (by simp; omega) (w4.heap.size + 1) (by simp) ?_; intro gg cap w1 hown1 hgrow0 hat hltg; have hgrow : (w4.alloc (.cells (rnodeCells ⟨f0, f1, f2, f3, f4, f5, f6⟩ (.slice A4 f4.length c4)).toArray 68)).grownBy w1 (Value.slice Av T.length cv).ownBlock := ⟨hgrow0.os, hgrow0.tape, hgrow0.output, hgrow0.size, hgrow0.block⟩; clear hgrow0; have bW := blk_grown (blk_alloc HBLK.out _) hgrow HNE.out; have cW := (blk_cell bW 0).trans rfl; have fW := blk_frozen bW 0; have HO1 := Aside0.mk hown1; have HG1 := Aside0.mk hgrow; have HAT := Aside0.mk hat; clear hown1 hgrow hat bW)
    all_goals
      go_wp2
      go_meet
      case rel =>
        have hp := rmake_parts (n := ⟨f0, f1, f2, f3, f4, f5, f6⟩) HBLK.out HLOW.out HSZ.out (fun k hk => HOK.out k (Nat.le_trans HBL.out.size hk)) H0.out HOWN.out HREP.out HVA.out HO1.out HG1.out (HAT.out.elim (fun h1 => .inl h1.symm) (fun h1 => .inr ⟨_, rfl, by subst h1; exact Nat.le_succ _⟩))
        exact ⟨⟨hp.1⟩, ⟨hp.2.1⟩, ⟨hp.2.2⟩⟩
  case rest =>
    obtain ⟨HTc, HFc, HBc⟩ := hcut
    obtain ⟨hlowc, vc, hblkc, hRc⟩ := HTc.out
    obtain ⟨Ac, cc, ec⟩ := Kd.R_slice hRc
    subst ec
    have cgc := (blk_cell hblkc 0).trans rfl
    rw [List.length_append, List.length_singleton] at cgc
    have hw : wrap64 (((T.length + 1 : Nat) : Int) - 1) = (T.length : Int) := by have := HL.out; unfold wrap64; omega
    clear hblkc hRc hlowc
    go_wp2
    go_ret
    refine ⟨?_, HTc.out, (TFrame.of_below HBL.out).trans HFc.out, Below.trans (HBL.out.mono HB.out) HBc.out⟩
    have hw2 : wrap64 (T.length : Int) = (T.length : Int) := by have := HL.out; unfold wrap64; omega
    rw [hw2]
    rfl
end Go.Proofs.YtomdidopflebjaaGreatDoor.PM
namespace Go.Proofs.YtomdidopflebjaaGreatDoor.PM
open Go.RowKit Go.Proofs.YtomdidopflebjaaGreatDoorW.PrintWords Go.Proofs.YtomdidopflebjaaGreatDoorW.PrintLast Go.Proofs.YtomdidopflebjaaGreatDoorW.PrintMore
set_option maxHeartbeats 4000000 in
set_option maxRecDepth 100000 in
theorem rcut_none {ok : Nat → Prop} (base g b cv : Nat) (W : World) (T : List S68) (i : Nat) (hT : RefRow ok base W g b cv T) (hi : i < T.length) (hn : (rd_T68 T i).f5 = -1) :
    Calls Tryz.prog 56 #[.pointer (some ⟨g, 0, none⟩), .int .i64 (i : Int)] W fun e W' => e = .returned (.tuple #[]) ∧ Below W.heap.size W W' := by
  have cg : W.cell? ⟨g, 0, none⟩ = some (.slice (some ⟨b, 0, none⟩) T.length cv) := (blk_cell hT.blk 0).trans rfl
  obtain ⟨v4, v6, _, _, hc⟩ := hT.cells i hi
  have c5 := hc 5 _ rfl
  rw [hn] at c5
  have HT := Aside0.mk hT
  clear hT hc
  have i0 : (0 : Int) ≤ (i : Int) := by omega
  have i1 : ((i : Int) < (T.length : Int)) := by omega
  go_enter Tryz.func56, Tryz.ntmps56
  go_wp2
  exact bodyPost_ret (v := .tuple #[]) (by simp [results, Tryz.results56, go_sem]) rfl ⟨rfl, Below.refl _ _⟩
def kidsOf (T : List S68) (p : Int) : List Int := (rd_T68 T p).f6
def rlay (T : List S68) (n p : Nat) : List S68 := putPar (putKids T p (kidsOf T p ++ [(n : Int)])) n p
theorem place_none (l : List Int) (hl : ∀ x ∈ l, 0 ≤ x) (hm : l.length ≤ 1000000) : ∀ (k i : Nat), i ≤ l.length → l.length + 1 ≤ k + i → PR.beadleref07_place.l0 k l (-1) (i : Int) = some (-1)
  | 0, i, h1, h2 => by omega
  | k + 1, i, h1, h2 => by
    unfold PR.beadleref07_place.l0
    by_cases hi : (i : Int) < (l.length : Int)
    · have hlt : i < l.length := by omega
      have hx : rd l (i : Int) = l[i] := by
        unfold rd
        simp [List.getD_eq_getElem?_getD, hlt]
      have h0 := hl l[i] (List.getElem_mem hlt)
      have hw : wrap64 ((i : Int) + 1) = ((i + 1 : Nat) : Int) := by unfold wrap64; omega
      rw [if_pos hi, if_pos (by omega), hx, if_neg (by omega), hw]
      exact place_none l hl hm k (i + 1) hlt (by omega)
    · rw [if_neg hi]
set_option maxHeartbeats 16000000 in
set_option maxRecDepth 100000 in
theorem rlay_last {ok : Nat → Prop} (base g b cv : Nat) (W : World) (T : List S68) (n p : Nat) (hT : RefRow ok base W g b cv T) (hok : ∀ k, W.heap.size ≤ k → ok k) (hn : n < T.length) (hp : p < T.length) (hk : ∀ x ∈ kidsOf T p, 0 ≤ x) (hm : (kidsOf T p).length ≤ 1000000) :
    Calls Tryz.prog 57 #[.pointer (some ⟨g, 0, none⟩), .int .i64 (n : Int), .int .i64 (p : Int), .int .i64 (-1)] W fun e W' => e = .returned (.tuple #[]) ∧ RefRow ok base W' g b cv (rlay T n p) ∧ TFrame [68, 105] W W' ∧ Below base W W' := by
  have hbz : base ≤ W.heap.size := Nat.le_trans hT.low (Nat.le_of_lt (blk_lt hT.blk))
  have HPL := Aside0.mk (place_none (kidsOf T p) hk hm ((kidsOf T p).length + 1) 0 (Nat.zero_le _) (by omega))
  have cg : W.cell? ⟨g, 0, none⟩ = some (.slice (some ⟨b, 0, none⟩) T.length cv) := (blk_cell hT.blk 0).trans rfl
  obtain ⟨v4, v6, _, h6, hc⟩ := hT.cells p hp
  have c6 := hc 6 _ rfl
  clear hc
  obtain ⟨A6, e6, rfl⟩ := Kd.R_slice h6
  obtain ⟨_, hle, hC6⟩ := Kd.R_reads' h6
  obtain ⟨i3, hi3, _, hz31, _⟩ := info_parts info3
  have hcutT : ∀ W : World, (Instr.slice 30 (.slice A6 (kidsOf T p).length e6) none (some (.int .i64 ((kidsOf T p).length : Int))) none).run Tryz.prog W = .ok (.slice A6 (kidsOf T p).length e6) W := cut_to (P := Tryz.prog) 30 3 .i64 Tryz.underlying30 hi3 A6 (kidsOf T p).length e6 ((kidsOf T p).length : Int) (by omega) (by omega) hle
  obtain ⟨AX, cX, hcutF⟩ : ∃ AX cX, ∀ W : World, (Instr.slice 30 (.slice A6 (kidsOf T p).length e6) (some (.int .i64 ((kidsOf T p).length : Int))) none none).run Tryz.prog W = .ok (.slice AX 0 cX) W := by
    have h := cut_from (P := Tryz.prog) 30 3 .i64 Tryz.underlying30 hi3 1 hz31 A6 (kidsOf T p).length e6 ((kidsOf T p).length : Int) (by omega) (by omega)
    have hz : (kidsOf T p).length - ((kidsOf T p).length : Int).toNat = 0 := by simp
    rw [hz] at h
    exact ⟨_, _, h⟩
  have HR := Aside0.mk hT
  have HK : Aside0 (rlay T n p = putPar (putKids T p (kidsOf T p ++ [(n : Int)])) n p) := ⟨rfl⟩
  change W.cell? ⟨b, p * 7 + 6, none⟩ = some (.slice A6 (kidsOf T p).length e6) at c6
  change (Kd.int .i64).C W A6 (kidsOf T p).length (kidsOf T p) at hC6
  change (kidsOf T p).length ≤ e6 at hle
  clear h6
  generalize kidsOf T p = kids at HK HPL hk hm hle hC6 hcutT hcutF c6
  have hbW : b < W.heap.size := hT.lt
  have hgb := hT.ne
  have hbg : ¬ (b = g) := fun e => hgb e.symm
  have HC6 := Aside0.mk hC6
  have C6 := Aside0.mk c6
  have CG := Aside0.mk cg
  have HLE := Aside0.mk hle
  have HM := Aside0.mk hm
  have HN := Aside0.mk hn
  have HP := Aside0.mk hp
  have i0 : (0 : Int) ≤ (n : Int) := by omega
  have i1 : ((n : Int) < (T.length : Int)) := by omega
  have j0 : (0 : Int) ≤ (p : Int) := by omega
  have j1 : ((p : Int) < (T.length : Int)) := by omega
  have HBZ := Aside0.mk hbz
  have d1 : decide ((-1 : Int) < 0) = true := by decide
  clear hT hk hm hle hC6 hn hp hbz
  have hfresh : ∀ k, W.heap.size ≤ k → ok k ∧ k ≠ b := fun k h => ⟨hok k h, by omega⟩
  have HFR := Aside0.mk hfresh
  clear hfresh hok
  go_enter Tryz.func57, Tryz.ntmps57
  go_wp2_with (first
    | (go_at_call 59; refine (PR.beadleref07_place.calls (kids.length + 1) _ e6 kids _ _ _ HC6.out HLE.out HPL.out).mono ?_; rintro e w2 ⟨rfl, hd⟩; have HB2 := Aside0.mk hd.below; clear hd cg c6; have cg := pw_cell_below HB2.out CG.out; have c6 := pw_cell_below HB2.out C6.out)
    | (refine Kd.R_append_rows (Kd.int .i64) (w0 := w2) W.heap.size rfl (.tmp 31) (.tmp 41) 30 3 (.int .i64 0) 8 rfl Tryz.underlying30 info3 rfl (by decide) (by omega) (.slice none 0 0) [] kids A6 kids.length e6 (fun k => ok k ∧ k ≠ b) (fun _ => False) rfl rfl (Kd.R_nil _ _ _ _ _) (Kd.C_below HC6.out HB2.out) (fun _ _ h => h) (fun _ h => h.elim) (fun k h => HFR.out k (Nat.le_trans HB2.out.size h)) (Below.refl _ _) HB2.out.size (by have := HM.out; simp; omega) ?_; intro v1 w3 hR3 hb3 _ _; change (Kd.int .i64).R 3 w3 W.heap.size _ v1 kids at hR3; obtain ⟨A1, c1, rfl⟩ := Kd.R_slice hR3; have HB3 := Aside0.mk (Below.trans HB2.out hb3); have HR3 := Aside0.mk hR3; clear hR3 hb3 cg c6; have cg := pw_cell_below HB3.out CG.out; have c6 := pw_cell_below HB3.out C6.out)
    | (refine Kd.R_append (Kd.int .i64) (w0 := w3) W.heap.size rfl (.tmp 43) (.tmp 45) 30 3 (.int .i64 0) 8 rfl Tryz.underlying30 info3 rfl (by decide) (by omega) (.slice A1 kids.length c1) kids (n : Int) [.int .i64 (n : Int)] (fun k => ok k ∧ k ≠ b) (fun _ => False) rfl rfl rfl (fun _ h => h.elim) (fun k h => HFR.out k (Nat.le_trans HB3.out.size h)) HR3.out (Below.refl _ _) HB3.out.size (by have := HM.out; omega) ?_; intro v2 w4 hR4 hb4 _ _; obtain ⟨A2, c2, rfl⟩ := Kd.R_slice hR4; rw [List.length_append, List.length_singleton] at hR4 ⊢; have HB4 := Aside0.mk (Below.trans HB3.out hb4); have HR4 := Aside0.mk hR4; clear hR4 hb4 cg c6; have cg := pw_cell_below HB4.out CG.out; have c6 := pw_cell_below HB4.out C6.out)
    | (refine Kd.R_append_rows (Kd.int .i64) (Rr := (Kd.int .i64).K w4) (w0 := w4) W.heap.size rfl (.tmp 47) (.tmp 57) 30 3 (.int .i64 0) 8 rfl Tryz.underlying30 info3 rfl (by decide) (by omega) (.slice A2 (kids.length + 1) c2) (kids ++ [(n : Int)]) [] AX 0 cX (fun k => ok k ∧ k ≠ b) (fun _ => False) rfl rfl HR4.out ⟨rfl, by omega, fun h => absurd h (by omega)⟩ (fun _ _ h => h) (fun _ h => h.elim) (fun k h => HFR.out k (Nat.le_trans HB4.out.size h)) (Below.refl _ _) HB4.out.size (by have := HM.out; simp; omega) ?_; intro v3 w5 hR5 hb5 _ _; rw [List.append_nil] at hR5; obtain ⟨A3, c3, rfl⟩ := Kd.R_slice hR5; have HB5 := Aside0.mk (Below.trans HB4.out hb5); have RW5 := Aside0.mk (HR.out.below HB5.out); have HR5 := Aside0.mk hR5; clear hR5 hb5 cg c6; have cg := pw_cell_below HB5.out CG.out; have c6 := pw_cell_below HB5.out C6.out; obtain ⟨_, _, _, _, hcn⟩ := RW5.out.cells n HN.out; have n5 := hcn 5 _ rfl; clear hcn; have hfr := RW5.out.frozen))
  go_end0
  have hR5 := HR5.out
  rw [List.length_append, List.length_singleton] at hR5
  have h1 := RW5.out.putKids p HP.out (kids ++ [(n : Int)]) _ (Kd.R_lower hR5 HBZ.out)
  have h2 := h1.putPar n (by unfold PM.putKids; rw [List.length_set]; exact HN.out) p
  rw [HK.out]
  refine ⟨rfl, h2, (TFrame.of_below HB5.out).trans ((RW5.out.putFrame _ _).trans (h1.putFrame _ _)), Below.trans (HB5.out.mono HBZ.out) (((Below.refl base _).setCell (p := ⟨b, p * 7 + 6, none⟩) RW5.out.base _).setCell (p := ⟨b, n * 7 + 5, none⟩) RW5.out.base _)⟩
end Go.Proofs.YtomdidopflebjaaGreatDoor.PM
namespace Go.Proofs.YtomdidopflebjaaGreatDoor.PM
open Go.RowKit Go.Proofs.YtomdidopflebjaaGreatDoorW.PrintWords Go.Proofs.YtomdidopflebjaaGreatDoorW.PrintLast Go.Proofs.YtomdidopflebjaaGreatDoorW.PrintMore
/-- Each node's parent is an earlier one; its kids are nodes, and not too many. -/
structure WfR (K : Nat) (T : List S68) : Prop where
  up : ∀ i : Nat, i < T.length → -1 ≤ (rd_T68 T i).f5 ∧ (rd_T68 T i).f5 < (i : Int)
  kids : ∀ i : Nat, i < T.length → ∀ x ∈ kidsOf T i, 0 ≤ x ∧ x < (T.length : Int)
  short : ∀ i : Nat, i < T.length → (kidsOf T i).length ≤ K
def rmayB (T : List S68) (p : Int) : Bool := decide (0 ≤ p ∧ p < (T.length : Int) ∧ ((rd_T68 T p).f0 = 0 ∨ (rd_T68 T p).f0 = 2))
theorem rmay_at (T : List S68) (p : Int) (k : Nat) : PR.beadleref07_may.f k [⟨T⟩] p (-1) = some (rmayB T p) := by
  have h1 : (rd_T105 [⟨T⟩] 0).f0 = T := rfl
  unfold PR.beadleref07_may.f PR.beadleref07_holds.f PR.beadleref07_Is.f rmayB
  rw [h1]
  by_cases h0 : 0 ≤ p
  · by_cases h2 : p < (T.length : Int)
    · by_cases h3 : (rd_T68 T p).f0 = 0
      · simp [h0, h2, h3]
      · by_cases h4 : (rd_T68 T p).f0 = 2
        · simp [h0, h2, h4]
        · simp [h0, h2, h3, h4]
    · simp [h0, h2]
  · simp [h0]
theorem runder_at (T : List S68) (K : Nat) (hw : WfR K T) (n : Int) (hn : 0 ≤ n) : ∀ (k : Nat) (x : Int), -1 ≤ x → x < n → x < (T.length : Int) → x + 2 ≤ (k : Int) → PR.beadleref07_Under.l0 k [⟨T⟩] x n = some false
  | 0, x, h1, _, _, h4 => by omega
  | k + 1, x, h1, h2, h3, h4 => by
    unfold PR.beadleref07_Under.l0
    by_cases e : x = -1
    · rw [if_neg (by omega)]
    · have h5 := hw.up x.toNat (by omega)
      have h6 : ((x.toNat : Nat) : Int) = x := by omega
      rw [h6] at h5
      rw [if_pos (by omega), if_neg (by omega), if_pos (by simp), if_pos (by omega)]
      show (if x < (T.length : Int) then _ else _) = _
      rw [if_pos h3]
      exact runder_at T K hw n hn k (rd_T68 T x).f5 h5.1 (by omega) (by omega) (by omega)
theorem runder_self (T : List S68) (n : Int) (hn : 0 ≤ n) (k : Nat) : PR.beadleref07_Under.l0 (k + 1) [⟨T⟩] n n = some true := by
  unfold PR.beadleref07_Under.l0
  rw [if_pos hn, if_pos rfl]
def rputAt (T : List S68) (p : Int) : List S68 := if rmayB T p = true ∧ p < (T.length : Int) - 1 then rlay T (T.length - 1) p.toNat else T
set_option maxHeartbeats 8000000 in
set_option maxRecDepth 100000 in
theorem rput_any {ok : Nat → Prop} (base g K : Nat) (W : World) (T : List S68) (p : Int) (hT : RefAt ok base W g T) (hok : ∀ k, W.heap.size ≤ k → ok k) (hw : WfR K T) (hK : K ≤ 1000000) (hl : 2 ≤ T.length) (hm : T.length ≤ 1000000) (hn : (rd_T68 T ((T.length - 1 : Nat) : Int)).f5 = -1) :
    Calls Tryz.prog 25 #[.pointer (some ⟨g, 0, none⟩), .int .i64 ((T.length - 1 : Nat) : Int), .int .i64 p, .int .i64 (-1)] W fun e W' => (∃ x, e = .returned (.bool x)) ∧ RefAt ok base W' g (rputAt T p) ∧ TFrame [68, 105] W W' ∧ Below base W W' := by
  obtain ⟨b, cv, hR⟩ := hT.rowOf (by omega)
  have hthere : PR.beadleref07_Is.f [⟨T⟩] ((T.length - 1 : Nat) : Int) = some true := by
    unfold PR.beadleref07_Is.f
    rw [if_pos (by omega), if_pos (by simp)]
    show some (decide (((T.length - 1 : Nat) : Int) < (T.length : Int))) = some true
    rw [decide_eq_true (by omega)]
  have hmay := rmay_at T p 0
  generalize hN : T.length - 1 = N at hthere hn ⊢
  have hN0 : (0 : Int) < (N : Int) := by omega
  have hN1 : ((N : Int) == 0) = false := beq_false_of_ne (by omega)
  have hN2 : ((-1 : Int) == (N : Int)) = false := beq_false_of_ne (by omega)
  have H1 := Aside0.mk hthere
  have H2 := Aside0.mk hmay
  have HR := Aside0.mk hR
  have HW := Aside0.mk hw
  have HN := Aside0.mk hn
  have HE := Aside0.mk hN
  have HL := Aside0.mk hl
  have HM := Aside0.mk hm
  have HKK := Aside0.mk hK
  have HOK := Aside0.mk hok
  have hC : ∀ {w' : World}, Below W.heap.size W w' → Kd.C k105 w' (some ⟨g, 0, none⟩) ([⟨T⟩] : List S105).length [⟨T⟩] := fun hb => (HR.out.below hb).at.C
  have HC := Aside0.mk @hC
  clear hthere hmay hR hw hn hN hl hm hC hT hK hok
  have hbz : base ≤ W.heap.size := Nat.le_trans HR.out.low (Nat.le_of_lt (blk_lt HR.out.blk))
  cases hmb : rmayB T p with
  | false =>
    rw [hmb] at H2
    go_enter Tryz.func25, Tryz.ntmps25
    go_wp2_with (first
      | (go_at_call 53; refine (PR.beadleref07_Is.calls _ 1 [⟨T⟩] _ _ _ (HC.out (Below.refl _ _)) ⟨Nat.le_refl _, by simp⟩ H1.out).mono ?_; rintro e w1 ⟨rfl, hd⟩; have HD := Aside0.mk hd.below; clear hd)
      | (go_at_call 54; refine (PR.beadleref07_may.calls 0 _ 1 [⟨T⟩] _ _ _ _ (HC.out HD.out) ⟨Nat.le_refl _, by simp⟩ H2.out).mono ?_; rintro e w2 ⟨rfl, hd⟩; have HD2 := Aside0.mk (below_step HD.out hd.below); clear hd))
    go_ret
    refine ⟨⟨_, rfl⟩, ?_, TFrame.of_below HD2.out, HD2.out.mono hbz⟩
    unfold rputAt
    rw [if_neg (by simp [hmb])]
    exact (HR.out.below HD2.out).at
  | true =>
    rw [hmb] at H2
    have hmb2 := of_decide_eq_true hmb
    have HMB := Aside0.mk hmb
    have HMB2 := Aside0.mk hmb2
    have hpc : p = (N : Int) ∨ p < (N : Int) := by have := HE.out; have := HL.out; omega
    clear hmb hmb2
    rcases hpc with rfl | hlt
    · have H3 := Aside0.mk (runder_self T (N : Int) (by omega) 0)
      go_enter Tryz.func25, Tryz.ntmps25
      go_wp2_with (first
        | (go_at_call 53; refine (PR.beadleref07_Is.calls _ 1 [⟨T⟩] _ _ _ (HC.out (Below.refl _ _)) ⟨Nat.le_refl _, by simp⟩ H1.out).mono ?_; rintro e w1 ⟨rfl, hd⟩; have HD := Aside0.mk hd.below; clear hd)
        | (go_at_call 54; refine (PR.beadleref07_may.calls 0 _ 1 [⟨T⟩] _ _ _ _ (HC.out HD.out) ⟨Nat.le_refl _, by simp⟩ H2.out).mono ?_; rintro e w2 ⟨rfl, hd⟩; have HD2 := Aside0.mk (below_step HD.out hd.below); clear hd)
        | (go_at_call 55; refine (PR.beadleref07_Under.calls 1 _ 1 [⟨T⟩] _ _ _ _ (HC.out HD2.out) ⟨Nat.le_refl _, by simp⟩ H3.out).mono ?_; rintro e w3 ⟨rfl, hd⟩; have HD3 := Aside0.mk (below_step HD2.out hd.below); clear hd))
      go_ret
      refine ⟨⟨_, rfl⟩, ?_, TFrame.of_below HD3.out, HD3.out.mono hbz⟩
      unfold rputAt
      rw [if_neg (fun h => by have := h.2; have := HE.out; have := HL.out; omega)]
      exact (HR.out.below HD3.out).at
    · have H3 := Aside0.mk (runder_at T K HW.out (N : Int) (by omega) (p.toNat + 2) p (by have := HMB2.out; omega) hlt (by have := HMB2.out; omega) (by have := HMB2.out; omega))
      have HLT := Aside0.mk hlt
      have hpn : ((p.toNat : Nat) : Int) = p := by have := HMB2.out; omega
      have HPN := Aside0.mk hpn
      have hcut := fun w' (hb : Below W.heap.size W w') => rcut_none base g b cv w' T N (HR.out.below hb) (by have := HE.out; have := HL.out; omega) HN.out
      have hlay := fun w' (hb : Below W.heap.size W w') => rlay_last base g b cv w' T N p.toNat (HR.out.below hb) (fun k hk => HOK.out k (Nat.le_trans hb.size hk)) (by have := HE.out; have := HL.out; omega) (by have := HMB2.out; omega) (fun x hx => (HW.out.kids p.toNat (by have := HMB2.out; omega) x hx).1) (Nat.le_trans (HW.out.short p.toNat (by have := HMB2.out; omega)) HKK.out)
      rw [hpn] at hlay
      have HCUT := Aside0.mk hcut
      have HLAY := Aside0.mk hlay
      clear hlt hpn hcut hlay
      go_enter Tryz.func25, Tryz.ntmps25
      go_wp2_with (first
        | (go_at_call 53; refine (PR.beadleref07_Is.calls _ 1 [⟨T⟩] _ _ _ (HC.out (Below.refl _ _)) ⟨Nat.le_refl _, by simp⟩ H1.out).mono ?_; rintro e w1 ⟨rfl, hd⟩; have HD := Aside0.mk hd.below; clear hd)
        | (go_at_call 54; refine (PR.beadleref07_may.calls 0 _ 1 [⟨T⟩] _ _ _ _ (HC.out HD.out) ⟨Nat.le_refl _, by simp⟩ H2.out).mono ?_; rintro e w2 ⟨rfl, hd⟩; have HD2 := Aside0.mk (below_step HD.out hd.below); clear hd)
        | (go_at_call 55; refine (PR.beadleref07_Under.calls (p.toNat + 2) _ 1 [⟨T⟩] _ _ _ _ (HC.out HD2.out) ⟨Nat.le_refl _, by simp⟩ H3.out).mono ?_; rintro e w3 ⟨rfl, hd⟩; have HD3 := Aside0.mk (below_step HD2.out hd.below); clear hd)
        | (go_at_call 56; refine (HCUT.out _ HD3.out).mono ?_; rintro e w4 ⟨rfl, hd⟩; have HD4 := Aside0.mk (below_step HD3.out hd); clear hd)
        | (go_at_call 57; refine (HLAY.out _ HD4.out).mono ?_; rintro e w5 ⟨rfl, hd, hf, hb⟩; have HD5 := Aside0.mk hd; have HF5 := Aside0.mk hf; have HB5 := Aside0.mk hb; clear hd hf hb))
      go_ret
      refine ⟨⟨_, rfl⟩, ?_, (TFrame.of_below HD4.out).trans HF5.out, Below.trans (HD4.out.mono hbz) HB5.out⟩
      unfold rputAt
      rw [if_pos ⟨HMB.out, by have := HE.out; have := HL.out; have := HLT.out; omega⟩, HE.out]
      exact HD5.out.at
end Go.Proofs.YtomdidopflebjaaGreatDoor.PM
namespace Go.Proofs.YtomdidopflebjaaGreatDoor.PM
open Go.RowKit Go.Proofs.YtomdidopflebjaaGreatDoorW.PrintWords Go.Proofs.YtomdidopflebjaaGreatDoorW.PrintLast Go.Proofs.YtomdidopflebjaaGreatDoorW.PrintMore
theorem wrap_small (m : Nat) (h : m ≤ 1000000) : IntKind.i64.wrap (m : Int) = (m : Int) := by
  rw [IntKind.wrap_i64]
  omega
def lastKid (T : List S68) (p : Int) : Int := rd (kidsOf T p) (((kidsOf T p).length - 1 : Nat) : Int)
def rtextIs (T : List S68) (p : Int) : Bool := decide ((kidsOf T p).length ≠ 0 ∧ (rd_T68 T (lastKid T p)).f0 = 3)
def rnewText (v at_ : Int) : S68 := ⟨3, at_, ⟨#[]⟩, Utf8.encode v, [], -1, []⟩
def rwriteAt (T : List S68) (v at_ p : Int) : List S68 :=
  if rmayB T p = true then
    (if rtextIs T p = true then putDat T (lastKid T p).toNat ((rd_T68 T (lastKid T p)).f3 ++ Utf8.encode v)
    else rlay (T ++ [rnewText v at_]) T.length p.toNat)
  else T
theorem bytes_low (v : Int) (h0 : 0 ≤ v) (h1 : v ≤ 127) (k : Nat) : PR.beadleref05_Bytes.f k v = some (Utf8.encode v) := by
  unfold PR.beadleref05_Bytes.f
  rw [if_pos (by omega), enc_low v h0 h1]
  have h2 : v % 256 = v := by omega
  rw [h2]
  simp [strOfNums]
set_option maxHeartbeats 8000000 in
set_option maxRecDepth 100000 in
theorem rwrite_no {ok : Nat → Prop} (base g : Nat) (W : World) (T : List S68) (v at_ p : Int) (hT : RefAt ok base W g T) (hbz : base ≤ W.heap.size) (hmb : rmayB T p = false) :
    Calls Tryz.prog 27 #[.pointer (some ⟨g, 0, none⟩), .int .i64 v, .int .i64 at_, .int .i64 p, .int .i64 (-1)] W fun e W' => (∃ x, e = .returned (.bool x)) ∧ RefAt ok base W' g (rwriteAt T v at_ p) ∧ TFrame [68, 105] W W' ∧ Below base W W' := by
  have hmay := rmay_at T p 0
  rw [hmb] at hmay
  have H2 := Aside0.mk hmay
  have HT := Aside0.mk hT
  have HMB := Aside0.mk hmb
  clear hmay hT hmb
  go_enter Tryz.func27, Tryz.ntmps27
  go_wp2_with (go_at_call 54; refine (PR.beadleref07_may.calls 0 _ 1 [⟨T⟩] _ _ _ _ (RefAt.C HT.out) ⟨Nat.le_refl _, by simp⟩ H2.out).mono ?_; rintro e w2 ⟨rfl, hd⟩; have HD2 := Aside0.mk hd.below; clear hd)
  go_ret
  refine ⟨⟨_, rfl⟩, ?_, TFrame.of_below HD2.out, HD2.out.mono hbz⟩
  unfold rwriteAt
  rw [if_neg (by rw [HMB.out]; decide)]
  exact HT.out.below HD2.out
set_option maxHeartbeats 16000000 in
set_option maxRecDepth 100000 in
theorem rwrite_more {ok : Nat → Prop} (base g K : Nat) (W : World) (T : List S68) (v at_ p : Int) (hT : RefAt ok base W g T) (hw : WfR K T) (hK : K ≤ 1000000) (hmb : rmayB T p = true) (htx : rtextIs T p = true) (hv0 : 0 ≤ v) (hv1 : v ≤ 127) (hsz : (rd_T68 T (lastKid T p)).f3.size ≤ 1000000) :
    Calls Tryz.prog 27 #[.pointer (some ⟨g, 0, none⟩), .int .i64 v, .int .i64 at_, .int .i64 p, .int .i64 (-1)] W fun e W' => (∃ x, e = .returned (.bool x)) ∧ RefAt ok base W' g (rwriteAt T v at_ p) ∧ TFrame [68, 105] W W' ∧ Below base W W' := by
  have hmay := rmay_at T p 0
  rw [hmb] at hmay
  obtain ⟨i0, i1, _⟩ := of_decide_eq_true hmb
  obtain ⟨t1, t2⟩ := of_decide_eq_true htx
  have hpn : ((p.toNat : Nat) : Int) = p := by omega
  have hkid := hw.kids p.toNat (by omega)
  have hksh := hw.short p.toNat (by omega)
  rw [hpn] at hkid hksh
  obtain ⟨b, cv, hR⟩ := hT.rowOf (by omega)
  have HPL := Aside0.mk (place_none (kidsOf T p) (fun x hx => (hkid x hx).1) (by omega) ((kidsOf T p).length + 1) 0 (Nat.zero_le _) (by omega))
  have hlk : lastKid T p ∈ kidsOf T p := by
    unfold lastKid rd
    rw [List.getD_eq_getElem?_getD, show (((kidsOf T p).length - 1 : Nat) : Int).toNat = (kidsOf T p).length - 1 by simp, List.getElem?_eq_getElem (by omega)]
    exact List.getElem_mem _
  obtain ⟨l0, l1⟩ := hkid _ hlk
  have HEND : Aside0 (rwriteAt T v at_ p = putDat T (lastKid T p).toNat ((rd_T68 T (lastKid T p)).f3 ++ Utf8.encode v)) := ⟨by unfold rwriteAt; rw [if_pos hmb, if_pos htx]⟩
  obtain ⟨v4, v6, _, h6, hc⟩ := hR.cells p.toNat (by omega)
  rw [hpn] at h6 hc
  have c6 := hc 6 _ rfl
  clear hc
  change (Kd.int .i64).R 3 W base _ v6 (kidsOf T p) at h6
  have hlast : rd (kidsOf T p) (((kidsOf T p).length - 1 : Nat) : Int) = lastKid T p := rfl
  generalize lastKid T p = last at hlast t2 l0 l1 hsz HEND
  generalize kidsOf T p = kids at hlast HPL hkid hksh t1 h6
  obtain ⟨m, hm⟩ : ∃ m, kids.length = m + 1 := ⟨kids.length - 1, by omega⟩
  have hform : ∃ h c, v6 = .slice (some ⟨h, 0, none⟩) kids.length c := by
    obtain ⟨_, inner, hown, _⟩ := h6
    rcases hown.2 with ⟨_, hn⟩ | ⟨h, c, _, hv, _⟩
    · omega
    · exact ⟨h, c, hv⟩
  obtain ⟨h, e6, rfl⟩ := hform
  have HC6 := Aside0.mk (Kd.R_reads' h6).2.2
  have HLE := Aside0.mk (Kd.R_reads' h6).2.1
  have ch := (Kd.R_cell (0 : Int) h6 (m : Int) (by omega) (by omega)).1
  have hrd : rdOf (0 : Int) kids (m : Int) = last := by rw [← hlast, hm]; rfl
  rw [hrd] at ch
  obtain ⟨_, _, _, _, hcl⟩ := hR.cells last.toNat (by omega)
  have hll : ((last.toNat : Nat) : Int) = last := by omega
  rw [hll] at hcl
  have ck := hcl 0 _ rfl
  have cd := hcl 3 _ rfl
  rw [Nat.add_zero, t2] at ck
  have C6 := Aside0.mk c6
  have CH : Aside0 (W.cell? ⟨h, m, none⟩ = some (.int .i64 last)) := ⟨ch⟩
  have CK := Aside0.mk ck
  have CD := Aside0.mk cd
  have CG : Aside0 (W.cell? ⟨g, 0, none⟩ = some (.slice (some ⟨b, 0, none⟩) T.length cv)) := ⟨(blk_cell hR.blk 0).trans rfl⟩
  have HR := Aside0.mk hR
  have H2 := Aside0.mk hmay
  have HLL := Aside0.mk hll
  have hbz : base ≤ W.heap.size := Nat.le_trans hR.low (Nat.le_of_lt (blk_lt hR.blk))
  have HBZ := Aside0.mk hbz
  have d0 : decide (v < 0) = false := decide_eq_false (by omega)
  have d1 : decide (1114111 < v) = false := decide_eq_false (by omega)
  have d2 : decide (55295 < v) = false := decide_eq_false (by omega)
  have d3 : decide ((-1 : Int) < 0) = true := by decide
  have d4 : decide (0 < ((m : Int) + 1)) = true := decide_eq_true (by omega)
  have hm1 : m ≤ 1000000 := by omega
  have hw1 : wrap64 (m : Int) = (m : Int) := by unfold wrap64; omega
  have hw2 : IntKind.i64.wrap (m : Int) = (m : Int) := wrap_small m hm1
  have hes : (Utf8.encode v).size = 1 := by
    rw [enc_low v hv0 hv1]
    rfl
  have hsm : (9223372036854775807 < (rd_T68 T last).f3.size + 1) = False := eq_false (by omega)
  have HBY := Aside0.mk (bytes_low v hv0 hv1 0)
  have HLT : Aside0 (last.toNat < T.length) := ⟨by omega⟩
  have hmi : ((m : Int) < (m : Int) + 1) := Int.lt_succ _
  have hm0 : (0 : Int) ≤ (m : Int) := Int.natCast_nonneg m
  rw [hm] at C6 HC6
  have HLE2 : Aside0 (m + 1 ≤ e6) := ⟨hm ▸ HLE.out⟩
  have hplace : ∀ w', Below W.heap.size W w' → Calls Tryz.prog 59 #[.slice (some ⟨h, 0, none⟩) (m + 1) e6, .int .i64 (-1)] w' fun e w'' => e = .returned (.int .i64 (-1)) ∧ Drawn0 w' w'' := fun w' hb => by
    have h1 := PR.beadleref07_place.calls (kids.length + 1) (some ⟨h, 0, none⟩) e6 kids (-1) (-1) w' (Kd.C_below (by rw [hm]; exact HC6.out) hb) HLE.out HPL.out
    rw [hm] at h1
    exact h1
  have HPLACE := Aside0.mk hplace
  clear hplace hmay hmb htx hpn hkid hksh h6 hlast hrd ch hcl ck cd c6 hR hT hw hK t2 hll HLE hm t1 hbz hlk
  go_enter Tryz.func27, Tryz.ntmps27
  go_upto_region 6 with (first
    | (go_at_call 54; refine (PR.beadleref07_may.calls 0 _ 1 [⟨T⟩] _ _ _ _ (RefAt.C HR.out.at) ⟨Nat.le_refl _, by simp⟩ H2.out).mono ?_; rintro e w2 ⟨rfl, hd⟩; have HD2 := Aside0.mk hd.below; clear hd; have cg := pw_cell_below HD2.out CG.out; have c6 := pw_cell_below HD2.out C6.out)
    | (go_at_call 59; refine (HPLACE.out _ HD2.out).mono ?_; rintro e w3 ⟨rfl, hd⟩; have HD3 := Aside0.mk (below_step HD2.out hd.below); clear hd cg c6; have cg := pw_cell_below HD3.out CG.out; have c6 := pw_cell_below HD3.out C6.out; have ch := pw_cell_below HD3.out CH.out; have ck := pw_cell_below HD3.out CK.out))
  have c0 := ck
  go_quiet (fail)
  have HB6 := Aside0.mk (below_step HD3.out (pw_below_drewN (n := nq) (Below.refl w3.heap.size w3)))
  clear c0 cg c6 ch ck
  generalize w3.drewN nq = w6 at HB6 ⊢
  have HR6 := Aside0.mk (HR.out.below HB6.out)
  go_upto_region 7 with (fail)
  go_cut [] (fun wc => Aside0 (RefRow ok base wc g b cv (putDat T last.toNat ((rd_T68 T last).f3 ++ Utf8.encode v))) ∧ Aside0 (TFrame [68, 105] w6 wc) ∧ Aside0 (Below base w6 wc))
  case first =>
    have cg := pw_cell_below HB6.out CG.out
    have c6 := pw_cell_below HB6.out C6.out
    have ch := pw_cell_below HB6.out CH.out
    have cd := pw_cell_below HB6.out CD.out
    go_region_law ((refine goes_ Tryz.func60 (by kernel_rfl) rfl #[.int .i64 v] (by rfl) rfl rfl (by simp [Act.eval, Act.put]) ?_); refine (PR.beadleref05_Bytes.calls 0 v _ _ HBY.out).mono ?_; rintro e w7 ⟨rfl, hb7⟩; refine ⟨_, rfl, ?_⟩; have HB7 := Aside0.mk (show Below w6.heap.size w6 w7 from ⟨hb7.os, hb7.tape, hb7.output, hb7.size, hb7.block⟩); clear hb7 cg c6 ch cd; have HB67 := Aside0.mk (below_step HB6.out HB7.out); have cg := pw_cell_below HB67.out CG.out; have c6 := pw_cell_below HB67.out C6.out; have ch := pw_cell_below HB67.out CH.out; have cd := pw_cell_below HB67.out CD.out; have HR7 := Aside0.mk (HR.out.below HB67.out); have hfr := HR7.out.frozen)
    all_goals
      go_wp2
      go_meet
      case rel =>
        have hp := HR7.out.putDat last.toNat HLT.out ((rd_T68 T last).f3 ++ Utf8.encode v)
        exact ⟨⟨hp⟩, ⟨(TFrame.of_below HB7.out).trans (HR7.out.putFrame _ _)⟩, ⟨(HB7.out.mono (Nat.le_trans HBZ.out HB6.out.size)).setCell HR7.out.base _⟩⟩
  case rest =>
    obtain ⟨HRc, HFc, HBc⟩ := hcut
    go_wp2
    go_ret
    refine ⟨⟨_, rfl⟩, ?_, (TFrame.of_below HB6.out).trans HFc.out, Below.trans (HB6.out.mono HBZ.out) HBc.out⟩
    rw [HEND.out]
    exact HRc.out.at
end Go.Proofs.YtomdidopflebjaaGreatDoor.PM
namespace Go.Proofs.YtomdidopflebjaaGreatDoor.PM
open Go.RowKit Go.Proofs.YtomdidopflebjaaGreatDoorW.PrintWords Go.Proofs.YtomdidopflebjaaGreatDoorW.PrintLast Go.Proofs.YtomdidopflebjaaGreatDoorW.PrintMore
set_option maxHeartbeats 16000000 in
set_option maxRecDepth 100000 in
theorem rwrite_new {ok : Nat → Prop} (base g K : Nat) (W : World) (T : List S68) (v at_ p : Int) (hT : RefAt ok base W g T) (hok : ∀ k, W.heap.size ≤ k → ok k) (hw : WfR K T) (hK : K ≤ 1000000) (hTm : T.length ≤ 1000000) (hmb : rmayB T p = true) (htx : rtextIs T p = false) (hv0 : 0 ≤ v) (hv1 : v ≤ 127) :
    Calls Tryz.prog 27 #[.pointer (some ⟨g, 0, none⟩), .int .i64 v, .int .i64 at_, .int .i64 p, .int .i64 (-1)] W fun e W' => (∃ x, e = .returned (.bool x)) ∧ RefAt ok base W' g (rwriteAt T v at_ p) ∧ TFrame [68, 105] W W' ∧ Below base W W' := by
  have hmay := rmay_at T p 0
  rw [hmb] at hmay
  obtain ⟨i0, i1, _⟩ := of_decide_eq_true hmb
  have htx2 := of_decide_eq_false htx
  have hpn : ((p.toNat : Nat) : Int) = p := by omega
  have hkid := hw.kids p.toNat (by omega)
  have hksh := hw.short p.toNat (by omega)
  rw [hpn] at hkid hksh
  obtain ⟨b, cv, hR⟩ := hT.rowOf (by omega)
  have HPL := Aside0.mk (place_none (kidsOf T p) (fun x hx => (hkid x hx).1) (by omega) ((kidsOf T p).length + 1) 0 (Nat.zero_le _) (by omega))
  have hbz : base ≤ W.heap.size := Nat.le_trans hR.low (Nat.le_of_lt (blk_lt hR.blk))
  have HEND : Aside0 (rwriteAt T v at_ p = rlay (T ++ [rnewText v at_]) T.length p.toNat) := ⟨by unfold rwriteAt; rw [if_pos hmb, if_neg (by rw [htx]; decide)]⟩
  have hkapp : kidsOf (T ++ [rnewText v at_]) p = kidsOf T p := by
    unfold kidsOf rd_T68
    rw [List.getD_eq_getElem?_getD, List.getD_eq_getElem?_getD, List.getElem?_append_left (by omega)]
  have HMAKE := Aside0.mk (fun w' (hb : Below W.heap.size W w') => rmake_any base g w' T (rnewText v at_) (.slice none 0 0) (hR.below hb).at (fun k hk => hok k (Nat.le_trans hb.size hk)) (Nat.le_trans hbz hb.size) (Kd.R_nil _ _ _ _ _) (show (1 : Int) ≤ 3 by decide) (show (3 : Int) ≤ 4 by decide) hTm)
  have hlay := fun w' b' cv' (hd : RefRow ok base w' g b' cv' (T ++ [rnewText v at_])) (hs : W.heap.size ≤ w'.heap.size) => rlay_last base g b' cv' w' (T ++ [rnewText v at_]) T.length p.toNat hd (fun k hk => hok k (Nat.le_trans hs hk)) (by simp) (by simp; omega) (by rw [hpn, hkapp]; exact fun x hx => (hkid x hx).1) (by rw [hpn, hkapp]; omega)
  rw [hpn] at hlay
  have HLAY := Aside0.mk hlay
  obtain ⟨v4, v6, _, h6, hc⟩ := hR.cells p.toNat (by omega)
  rw [hpn] at h6 hc
  have c6 := hc 6 _ rfl
  clear hc hlay hkapp
  change (Kd.int .i64).R 3 W base _ v6 (kidsOf T p) at h6
  obtain ⟨A6, e6, rfl⟩ := Kd.R_slice h6
  have HC6 := Aside0.mk (Kd.R_reads' h6).2.2
  have HLE := Aside0.mk (Kd.R_reads' h6).2.1
  have C6 := Aside0.mk c6
  have CG : Aside0 (W.cell? ⟨g, 0, none⟩ = some (.slice (some ⟨b, 0, none⟩) T.length cv)) := ⟨(blk_cell hR.blk 0).trans rfl⟩
  have HR := Aside0.mk hR
  have H2 := Aside0.mk hmay
  have HBZ := Aside0.mk hbz
  have HBY := Aside0.mk (bytes_low v hv0 hv1 0)
  have d0 : decide (v < 0) = false := decide_eq_false (by omega)
  have d1 : decide (1114111 < v) = false := decide_eq_false (by omega)
  have d2 : decide (55295 < v) = false := decide_eq_false (by omega)
  have d3 : decide ((-1 : Int) < 0) = true := by decide
  by_cases hc : (kidsOf T p).length = 0
  · have hplace : ∀ w', Below W.heap.size W w' → Calls Tryz.prog 59 #[.slice A6 0 e6, .int .i64 (-1)] w' fun e w'' => e = .returned (.int .i64 (-1)) ∧ Drawn0 w' w'' := fun w' hb => by
      have h1 := PR.beadleref07_place.calls ((kidsOf T p).length + 1) A6 e6 (kidsOf T p) (-1) (-1) w' (Kd.C_below HC6.out hb) HLE.out HPL.out
      rw [hc] at h1
      exact h1
    have HPLACE := Aside0.mk hplace
    rw [hc] at C6
    clear hplace hmay hmb htx hpn hkid hksh h6 c6 hR hT hw hK htx2 hc hbz hTm hok
    go_enter Tryz.func27, Tryz.ntmps27
    go_upto_region 6 with (first
      | (go_at_call 54; refine (PR.beadleref07_may.calls 0 _ 1 [⟨T⟩] _ _ _ _ (RefAt.C HR.out.at) ⟨Nat.le_refl _, by simp⟩ H2.out).mono ?_; rintro e w2 ⟨rfl, hd⟩; have HD2 := Aside0.mk hd.below; clear hd; have cg := pw_cell_below HD2.out CG.out; have c6 := pw_cell_below HD2.out C6.out)
      | (go_at_call 59; refine (HPLACE.out _ HD2.out).mono ?_; rintro e w3 ⟨rfl, hd⟩; have HD3 := Aside0.mk (below_step HD2.out hd.below); clear hd cg c6; have cg := pw_cell_below HD3.out CG.out; have c6 := pw_cell_below HD3.out C6.out))
    go_quiet (fail)
    have HB6 := Aside0.mk (below_step HD3.out (pw_below_drewN (n := nq) (Below.refl w3.heap.size w3)))
    clear cg c6
    generalize w3.drewN nq = w6 at HB6 ⊢
    go_wp2_with (first
      | (go_at_call 60; refine (PR.beadleref05_Bytes.calls 0 v _ _ HBY.out).mono ?_; rintro e w7 ⟨rfl, hb⟩; have HB7 := Aside0.mk (below_step HB6.out hb); clear hb)
      | (go_at_call 24; refine (HMAKE.out _ HB7.out).mono ?_; rintro e w8 ⟨rfl, hd, hf, hb⟩; obtain ⟨b4, cv4, hd4⟩ := RefAt.rowOf hd (by simp); have HR4 := Aside0.mk hd4; have HF4 := Aside0.mk hf; have HB4 := Aside0.mk hb; clear hd hf hb hd4)
      | (go_at_call 57; refine (HLAY.out _ _ _ HR4.out (Nat.le_trans HB7.out.size HB4.out.size)).mono ?_; rintro e w9 ⟨rfl, hd, hf, hb⟩; have HR5 := Aside0.mk hd; have HF5 := Aside0.mk hf; have HB5 := Aside0.mk hb; clear hd hf hb))
    go_ret
    refine ⟨⟨_, rfl⟩, ?_, (TFrame.of_below HB7.out).trans (HF4.out.trans HF5.out), Below.trans (HB7.out.mono HBZ.out) (Below.trans HB4.out HB5.out)⟩
    rw [HEND.out]
    exact HR5.out.at
  · have hform : ∃ h, A6 = some ⟨h, 0, none⟩ := by
      obtain ⟨_, inner, hown, _⟩ := h6
      rcases hown.2 with ⟨_, hn⟩ | ⟨h, c, _, hv, _⟩
      · exact absurd hn hc
      · injection hv with hv _ _
        exact ⟨h, hv⟩
    obtain ⟨h, rfl⟩ := hform
    have hlk : lastKid T p ∈ kidsOf T p := by
      unfold lastKid rd
      rw [List.getD_eq_getElem?_getD, show (((kidsOf T p).length - 1 : Nat) : Int).toNat = (kidsOf T p).length - 1 by simp, List.getElem?_eq_getElem (by omega)]
      exact List.getElem_mem _
    obtain ⟨l0, l1⟩ := hkid _ hlk
    have t2 : (rd_T68 T (lastKid T p)).f0 ≠ 3 := fun e => htx2 ⟨hc, e⟩
    have hlast : rd (kidsOf T p) (((kidsOf T p).length - 1 : Nat) : Int) = lastKid T p := rfl
    obtain ⟨m, hm⟩ : ∃ m, (kidsOf T p).length = m + 1 := ⟨(kidsOf T p).length - 1, by omega⟩
    have hm1 : m ≤ 1000000 := by omega
    have ch := (Kd.R_cell (0 : Int) h6 (m : Int) (Int.natCast_nonneg m) (by rw [hm]; exact Int.lt_succ _)).1
    have hrd : rdOf (0 : Int) (kidsOf T p) (m : Int) = lastKid T p := by rw [← hlast, hm]; rfl
    rw [hrd] at ch
    generalize lastKid T p = last at t2 l0 l1 ch
    obtain ⟨_, _, _, _, hcl⟩ := hR.cells last.toNat (by omega)
    have hll : ((last.toNat : Nat) : Int) = last := by omega
    rw [hll] at hcl
    have ck := hcl 0 _ rfl
    rw [Nat.add_zero] at ck
    have t3 : ((rd_T68 T last).f0 == 3) = false := beq_false_of_ne t2
    generalize (rd_T68 T last).f0 = kk at t2 t3 ck
    have CH : Aside0 (W.cell? ⟨h, m, none⟩ = some (.int .i64 last)) := ⟨ch⟩
    have CK := Aside0.mk ck
    have HPLACE := Aside0.mk (fun w' (hb : Below W.heap.size W w') => PR.beadleref07_place.calls ((kidsOf T p).length + 1) (some ⟨h, 0, none⟩) e6 (kidsOf T p) (-1) (-1) w' (Kd.C_below HC6.out hb) HLE.out HPL.out)
    change Aside0 (W.cell? ⟨b, p.toNat * 7 + 6, none⟩ = some (.slice (some ⟨h, 0, none⟩) (kidsOf T p).length e6)) at C6
    rw [hm] at C6 HPLACE
    have d4 : decide (0 < ((m : Int) + 1)) = true := decide_eq_true (Int.lt_of_le_of_lt (Int.natCast_nonneg m) (Int.lt_succ _))
    have hw2 : IntKind.i64.wrap (m : Int) = (m : Int) := wrap_small m hm1
    have hmi : ((m : Int) < (m : Int) + 1) := Int.lt_succ _
    have hm0 : (0 : Int) ≤ (m : Int) := Int.natCast_nonneg m
    clear hmay hmb htx hpn hkid hksh h6 c6 hR hT hw hK htx2 hc hbz hTm hlk hlast hrd ch hcl hll ck hm hok
    go_enter Tryz.func27, Tryz.ntmps27
    go_upto_region 6 with (first
      | (go_at_call 54; refine (PR.beadleref07_may.calls 0 _ 1 [⟨T⟩] _ _ _ _ (RefAt.C HR.out.at) ⟨Nat.le_refl _, by simp⟩ H2.out).mono ?_; rintro e w2 ⟨rfl, hd⟩; have HD2 := Aside0.mk hd.below; clear hd; have cg := pw_cell_below HD2.out CG.out; have c6 := pw_cell_below HD2.out C6.out)
      | (go_at_call 59; refine (HPLACE.out _ HD2.out).mono ?_; rintro e w3 ⟨rfl, hd⟩; have HD3 := Aside0.mk (below_step HD2.out hd.below); clear hd cg c6; have cg := pw_cell_below HD3.out CG.out; have c6 := pw_cell_below HD3.out C6.out; have ch := pw_cell_below HD3.out CH.out; have ck := pw_cell_below HD3.out CK.out))
    go_quiet (fail)
    have HB6 := Aside0.mk (below_step HD3.out (pw_below_drewN (n := nq) (Below.refl w3.heap.size w3)))
    clear cg c6 ch ck
    generalize w3.drewN nq = w6 at HB6 ⊢
    go_wp2_with (first
      | (go_at_call 60; refine (PR.beadleref05_Bytes.calls 0 v _ _ HBY.out).mono ?_; rintro e w7 ⟨rfl, hb⟩; have HB7 := Aside0.mk (below_step HB6.out hb); clear hb)
      | (go_at_call 24; refine (HMAKE.out _ HB7.out).mono ?_; rintro e w8 ⟨rfl, hd, hf, hb⟩; obtain ⟨b4, cv4, hd4⟩ := RefAt.rowOf hd (by simp); have HR4 := Aside0.mk hd4; have HF4 := Aside0.mk hf; have HB4 := Aside0.mk hb; clear hd hf hb hd4)
      | (go_at_call 57; refine (HLAY.out _ _ _ HR4.out (Nat.le_trans HB7.out.size HB4.out.size)).mono ?_; rintro e w9 ⟨rfl, hd, hf, hb⟩; have HR5 := Aside0.mk hd; have HF5 := Aside0.mk hf; have HB5 := Aside0.mk hb; clear hd hf hb))
    go_ret
    refine ⟨⟨_, rfl⟩, ?_, (TFrame.of_below HB7.out).trans (HF4.out.trans HF5.out), Below.trans (HB7.out.mono HBZ.out) (Below.trans HB4.out HB5.out)⟩
    rw [HEND.out]
    exact HR5.out.at
theorem rwrite_any {ok : Nat → Prop} (base g K : Nat) (W : World) (T : List S68) (v at_ p : Int) (hT : RefAt ok base W g T) (hok : ∀ k, W.heap.size ≤ k → ok k) (hbz : base ≤ W.heap.size) (hw : WfR K T) (hK : K ≤ 1000000) (hTm : T.length ≤ 1000000) (hv0 : 0 ≤ v) (hv1 : v ≤ 127) (hsz : ∀ i : Int, (rd_T68 T i).f0 = 3 → (rd_T68 T i).f3.size ≤ 1000000) :
    Calls Tryz.prog 27 #[.pointer (some ⟨g, 0, none⟩), .int .i64 v, .int .i64 at_, .int .i64 p, .int .i64 (-1)] W fun e W' => (∃ x, e = .returned (.bool x)) ∧ RefAt ok base W' g (rwriteAt T v at_ p) ∧ TFrame [68, 105] W W' ∧ Below base W W' := by
  cases hmb : rmayB T p with
  | false => exact rwrite_no base g W T v at_ p hT hbz hmb
  | true =>
    cases htx : rtextIs T p with
    | false => exact rwrite_new base g K W T v at_ p hT hok hw hK hTm hmb htx hv0 hv1
    | true => exact rwrite_more base g K W T v at_ p hT hw hK hmb htx hv0 hv1 (hsz _ (of_decide_eq_true htx).2)
end Go.Proofs.YtomdidopflebjaaGreatDoor.PM
namespace Go.Proofs.YtomdidopflebjaaGreatDoor.PM
open Go.RowKit Go.Proofs.YtomdidopflebjaaGreatDoorW.PrintWords Go.Proofs.YtomdidopflebjaaGreatDoorW.PrintLast Go.Proofs.YtomdidopflebjaaGreatDoorW.PrintMore
theorem getD_set {α : Type} (T : List α) (i j : Nat) (y z : α) (hi : i < T.length) : (T.set i y).getD j z = if j = i then y else T.getD j z := by
  rw [List.getD_eq_getElem?_getD, List.getD_eq_getElem?_getD, List.getElem?_set]
  by_cases h : i = j
  · subst h
    simp [hi]
  · rw [if_neg h, if_neg (fun e => h e.symm)]
theorem getD_app {α : Type} (T : List α) (x z : α) (j : Nat) : (T ++ [x]).getD j z = if j < T.length then T.getD j z else if j = T.length then x else z := by
  rw [List.getD_eq_getElem?_getD, List.getD_eq_getElem?_getD]
  by_cases h : j < T.length
  · rw [if_pos h, List.getElem?_append_left h]
  · rw [if_neg h]
    by_cases e : j = T.length
    · rw [if_pos e, e, List.getElem?_append_right (Nat.le_refl _), Nat.sub_self]
      rfl
    · rw [if_neg e, List.getElem?_eq_none (by rw [List.length_append, List.length_singleton]; omega)]
      rfl
theorem rd_set (T : List S110) (i j : Nat) (y : S110) (hi : i < T.length) : rd_T110 (T.set i y) (j : Int) = if j = i then y else rd_T110 T (j : Int) := getD_set T i j y z110 hi
theorem rd_app (T : List S110) (x : S110) (j : Nat) : rd_T110 (T ++ [x]) (j : Int) = if j < T.length then rd_T110 T (j : Int) else if j = T.length then x else z110 := getD_app T x z110 j
theorem rdp (T : List S110) (i j q : Nat) (v : Int) (hi : i < T.length) : rd_T110 (putLk T i q v) (j : Int) = if j = i then setLk (rd_T110 T (i : Int)) q v else rd_T110 T (j : Int) := rd_set T i j _ hi
theorem setLk_f0 (x : S110) (q : Nat) (v : Int) : (setLk x q v).f0 = x.f0 := by
  match q with
  | 0 => rfl
  | 1 => rfl
  | 2 => rfl
  | 3 => rfl
  | _ + 4 => rfl
theorem setLk_par (x : S110) (q : Nat) (v : Int) (hq : q ≠ 0) : (setLk x q v).f1.f0 = x.f1.f0 := by
  match q, hq with
  | 1, _ => rfl
  | 2, _ => rfl
  | 3, _ => rfl
  | _ + 4, _ => rfl
theorem setLk_last (x : S110) (q : Nat) (v : Int) (hq : q ≠ 2) : (setLk x q v).f1.f2 = x.f1.f2 := by
  match q, hq with
  | 0, _ => rfl
  | 1, _ => rfl
  | 3, _ => rfl
  | _ + 4, _ => rfl
theorem rdp_f0 (T : List S110) (i j q : Nat) (v : Int) (hi : i < T.length) : (rd_T110 (putLk T i q v) (j : Int)).f0 = (rd_T110 T (j : Int)).f0 := by
  rw [rdp T i j q v hi]
  by_cases h : j = i
  · rw [if_pos h, setLk_f0, h]
  · rw [if_neg h]
theorem rdp_par (T : List S110) (i j q : Nat) (v : Int) (hi : i < T.length) : (rd_T110 (putLk T i q v) (j : Int)).f1.f0 = if q = 0 ∧ j = i then v else (rd_T110 T (j : Int)).f1.f0 := by
  rw [rdp T i j q v hi]
  by_cases h : j = i
  · rw [if_pos h]
    by_cases hq : q = 0
    · rw [if_pos ⟨hq, h⟩, hq]
      rfl
    · rw [if_neg (fun e => hq e.1), setLk_par _ _ _ hq, h]
  · rw [if_neg h, if_neg (fun e => h e.2)]
theorem rdp_last (T : List S110) (i j q : Nat) (v : Int) (hi : i < T.length) : (rd_T110 (putLk T i q v) (j : Int)).f1.f2 = if q = 2 ∧ j = i then v else (rd_T110 T (j : Int)).f1.f2 := by
  rw [rdp T i j q v hi]
  by_cases h : j = i
  · rw [if_pos h]
    by_cases hq : q = 2
    · rw [if_pos ⟨hq, h⟩, hq]
      rfl
    · rw [if_neg (fun e => hq e.1), setLk_last _ _ _ hq, h]
  · rw [if_neg h, if_neg (fun e => h e.2)]
theorem layLk_length (T : List S110) (n p : Nat) : (layLk T n p).length = T.length := by
  unfold layLk
  split <;> simp only [putLk_length]
theorem lay_rd (T : List S110) (n p : Nat) (hn : n < T.length) (hp : p < T.length) (hl : (rd_T110 T p).f1.f2 = -1 ∨ (0 ≤ (rd_T110 T p).f1.f2 ∧ (rd_T110 T p).f1.f2 < (T.length : Int))) (j : Nat) :
    (rd_T110 (layLk T n p) (j : Int)).f0 = (rd_T110 T (j : Int)).f0 ∧ (rd_T110 (layLk T n p) (j : Int)).f1.f0 = (if j = n then (p : Int) else (rd_T110 T (j : Int)).f1.f0) ∧ (rd_T110 (layLk T n p) (j : Int)).f1.f2 = (if j = p then (n : Int) else (rd_T110 T (j : Int)).f1.f2) := by
  have hlt : (rd_T110 T p).f1.f2 ≠ -1 → (rd_T110 T p).f1.f2.toNat < T.length := fun h => by omega
  unfold layLk
  split
  · refine ⟨?_, ?_, ?_⟩
    · rw [rdp_f0, rdp_f0, rdp_f0, rdp_f0, rdp_f0] <;> (try simp only [putLk_length]) <;> assumption
    · rw [rdp_par, rdp_par, rdp_par, rdp_par, rdp_par] <;> (try simp only [putLk_length]) <;> first | assumption | simp
    · rw [rdp_last, rdp_last, rdp_last, rdp_last, rdp_last] <;> (try simp only [putLk_length]) <;> first | assumption | simp
  · rename_i hne
    have h9 := hlt hne
    refine ⟨?_, ?_, ?_⟩
    · rw [rdp_f0, rdp_f0, rdp_f0, rdp_f0, rdp_f0] <;> (try simp only [putLk_length]) <;> assumption
    · rw [rdp_par, rdp_par, rdp_par, rdp_par, rdp_par] <;> (try simp only [putLk_length]) <;> first | assumption | simp
    · rw [rdp_last, rdp_last, rdp_last, rdp_last, rdp_last] <;> (try simp only [putLk_length]) <;> first | assumption | simp
/-- What is known of a tree behind c steps. -/
structure InvT (c : Nat) (T : List S110) : Prop where
  pos : 0 < T.length
  len : T.length ≤ c + 1
  wf : WfT T
  txt : ∀ i : Nat, (rd_T110 T (i : Int)).f0.f0 = 3 → (rd_T110 T (i : Int)).f0.f3.size ≤ c
theorem InvT.txt' {c : Nat} {T : List S110} (h : InvT c T) (i : Int) (hk : (rd_T110 T i).f0.f0 = 3) : (rd_T110 T i).f0.f3.size ≤ c := h.txt i.toNat hk
theorem InvT.doc : InvT 0 docOnly := by
  refine ⟨by decide, by decide, ⟨fun i hi => ?_, fun i hi => ?_⟩, fun i hk => ?_⟩
  · obtain rfl : i = 0 := by simpa [docOnly] using hi
    decide
  · obtain rfl : i = 0 := by simpa [docOnly] using hi
    exact .inl rfl
  · match i, hk with
    | 0, hk => exact absurd hk (by decide)
    | i + 1, hk => exact absurd hk (by show ¬ ((0 : Int) = 3); decide)
theorem InvT.make {c : Nat} {T : List S110} (h : InvT c T) (x : S59) (hx : x.f0 = 3 → x.f3.size ≤ c + 1) : InvT (c + 1) (T ++ [⟨x, loose107⟩]) := by
  refine ⟨by simp, by have := h.len; simp; omega, ⟨fun i hi => ?_, fun i hi => ?_⟩, fun i hk => ?_⟩
  · rw [rd_app]
    by_cases h1 : i < T.length
    · rw [if_pos h1]
      exact h.wf.up i h1
    · have h2 : i = T.length := by simp at hi; omega
      rw [if_neg h1, if_pos h2]
      exact ⟨show (-1 : Int) ≤ -1 by decide, by show (-1 : Int) < (i : Int); omega⟩
  · rw [rd_app]
    by_cases h1 : i < T.length
    · rw [if_pos h1]
      exact (h.wf.last i h1).imp_right (fun h => ⟨h.1, by simp; omega⟩)
    · have h2 : i = T.length := by simp at hi; omega
      rw [if_neg h1, if_pos h2]
      exact .inl rfl
  · rw [rd_app] at hk ⊢
    by_cases h1 : i < T.length
    · rw [if_pos h1] at hk ⊢
      exact Nat.le_succ_of_le (h.txt i hk)
    · rw [if_neg h1] at hk ⊢
      by_cases h2 : i = T.length
      · rw [if_pos h2] at hk ⊢
        exact hx hk
      · rw [if_neg h2] at hk
        exact absurd hk (by decide)
theorem InvT.lay {c : Nat} {T : List S110} (h : InvT c T) (n p : Nat) (hn : n < T.length) (hp : p < n) : InvT c (layLk T n p) := by
  have hr := lay_rd T n p hn (by omega) (h.wf.last p (by omega))
  refine ⟨by rw [layLk_length]; exact h.pos, by rw [layLk_length]; exact h.len, ⟨fun i hi => ?_, fun i hi => ?_⟩, fun i hk => ?_⟩
  · rw [layLk_length] at hi
    rw [(hr i).2.1]
    by_cases e : i = n
    · rw [if_pos e]
      omega
    · rw [if_neg e]
      exact h.wf.up i hi
  · rw [layLk_length] at hi ⊢
    rw [(hr i).2.2]
    by_cases e : i = p
    · rw [if_pos e]
      right
      omega
    · rw [if_neg e]
      exact h.wf.last i hi
  · rw [(hr i).1] at hk ⊢
    exact h.txt i hk
theorem InvT.put {c : Nat} {T : List S110} (h : InvT c T) (p : Int) : InvT c (putAt T p) := by
  unfold putAt
  split
  · rename_i hc
    have h1 := of_decide_eq_true hc.1
    exact h.lay _ _ (by have := h.pos; omega) (by omega)
  · exact h
theorem InvT.mono {c d : Nat} {T : List S110} (h : InvT c T) (hd : c ≤ d) : InvT d T := ⟨h.pos, by have := h.len; omega, h.wf, fun i hk => Nat.le_trans (h.txt i hk) hd⟩
theorem InvT.write {c : Nat} {T : List S110} (h : InvT c T) (v at_ p : Int) (h0 : 0 ≤ v) (h1 : v ≤ 127) : InvT (c + 1) (writeAt T v at_ p) := by
  unfold writeAt
  split
  · rename_i hm
    have hm2 := of_decide_eq_true hm
    split
    · rename_i ht
      obtain ⟨t1, t2⟩ := of_decide_eq_true ht
      have hlast := (h.wf.last p.toNat (by omega))
      have hpn : ((p.toNat : Nat) : Int) = p := by omega
      rw [hpn] at hlast
      have hl := hlast.resolve_left t1
      have hsz := h.txt' _ t2
      have hlt : (rd_T110 T p).f1.f2.toNat < T.length := by omega
      have hd : ((rd_T110 T (rd_T110 T p).f1.f2).f0.f3 ++ Utf8.encode v).size ≤ c + 1 := by
        rw [ByteArray.size_append, enc_low v h0 h1]
        exact Nat.add_le_add_right hsz 1
      generalize hdd : (rd_T110 T (rd_T110 T p).f1.f2).f0.f3 ++ Utf8.encode v = dd at hd
      have hrr : ∀ j : Nat, (rd_T110 (putData T (rd_T110 T p).f1.f2.toNat dd) (j : Int)).f1 = (rd_T110 T (j : Int)).f1 := fun j => by
        unfold putData
        rw [rd_set _ _ _ _ hlt]
        by_cases e : j = (rd_T110 T p).f1.f2.toNat
        · rw [if_pos e, e]
          rfl
        · rw [if_neg e]
      have hlen : (putData T (rd_T110 T p).f1.f2.toNat dd).length = T.length := List.length_set ..
      refine ⟨by rw [hlen]; exact h.pos, by rw [hlen]; have := h.len; omega, ⟨fun i hi => ?_, fun i hi => ?_⟩, fun i hk => ?_⟩
      · rw [hrr]
        exact h.wf.up i (by omega)
      · rw [hrr, hlen]
        exact h.wf.last i (by omega)
      · unfold putData at hk ⊢
        rw [rd_set _ _ _ _ hlt] at hk ⊢
        by_cases e : i = (rd_T110 T p).f1.f2.toNat
        · rw [if_pos e]
          exact hd
        · rw [if_neg e] at hk ⊢
          exact Nat.le_succ_of_le (h.txt i hk)
    · have hnew := h.make (newText v at_).f0 (fun _ => by show (Utf8.encode v).size ≤ c + 1; rw [enc_low v h0 h1]; exact Nat.le_add_left 1 c)
      exact hnew.lay _ _ (by simp) (by omega)
  · exact h.mono (Nat.le_succ _)
end Go.Proofs.YtomdidopflebjaaGreatDoor.PM
namespace Go.Proofs.YtomdidopflebjaaGreatDoor.PM
open Go.RowKit Go.Proofs.YtomdidopflebjaaGreatDoorW.PrintWords Go.Proofs.YtomdidopflebjaaGreatDoorW.PrintLast Go.Proofs.YtomdidopflebjaaGreatDoorW.PrintMore
theorem rrd_set (T : List S68) (i j : Nat) (y : S68) (hi : i < T.length) : rd_T68 (T.set i y) (j : Int) = if j = i then y else rd_T68 T (j : Int) := getD_set T i j y z68 hi
theorem rrd_app (T : List S68) (x : S68) (j : Nat) : rd_T68 (T ++ [x]) (j : Int) = if j < T.length then rd_T68 T (j : Int) else if j = T.length then x else z68 := getD_app T x z68 j
theorem rlay_length (T : List S68) (n p : Nat) : (rlay T n p).length = T.length := by
  unfold rlay putPar putKids
  rw [List.length_set, List.length_set]
theorem rlay_rd (T : List S68) (n p : Nat) (hn : n < T.length) (hp : p < T.length) (j : Nat) :
    (rd_T68 (rlay T n p) (j : Int)).f0 = (rd_T68 T (j : Int)).f0 ∧ (rd_T68 (rlay T n p) (j : Int)).f1 = (rd_T68 T (j : Int)).f1 ∧ (rd_T68 (rlay T n p) (j : Int)).f2 = (rd_T68 T (j : Int)).f2 ∧ (rd_T68 (rlay T n p) (j : Int)).f3 = (rd_T68 T (j : Int)).f3 ∧ (rd_T68 (rlay T n p) (j : Int)).f4 = (rd_T68 T (j : Int)).f4 ∧
    (rd_T68 (rlay T n p) (j : Int)).f5 = (if j = n then (p : Int) else (rd_T68 T (j : Int)).f5) ∧ (rd_T68 (rlay T n p) (j : Int)).f6 = (if j = p then kidsOf T p ++ [(n : Int)] else (rd_T68 T (j : Int)).f6) := by
  unfold rlay putPar
  have hn2 : n < (putKids T p (kidsOf T p ++ [(n : Int)])).length := by unfold putKids; rw [List.length_set]; exact hn
  have hk : ∀ j : Nat, rd_T68 (putKids T p (kidsOf T p ++ [(n : Int)])) (j : Int) = if j = p then ⟨(rd_T68 T p).f0, (rd_T68 T p).f1, (rd_T68 T p).f2, (rd_T68 T p).f3, (rd_T68 T p).f4, (rd_T68 T p).f5, kidsOf T p ++ [(n : Int)]⟩ else rd_T68 T (j : Int) := fun j => rrd_set T p j _ hp
  rw [rrd_set _ _ _ _ hn2]
  by_cases e : j = n
  · subst e
    rw [if_pos rfl, if_pos rfl, hk]
    by_cases e2 : j = p
    · subst e2
      rw [if_pos rfl, if_pos rfl]
      exact ⟨rfl, rfl, rfl, rfl, rfl, rfl, rfl⟩
    · rw [if_neg e2, if_neg e2]
      exact ⟨rfl, rfl, rfl, rfl, rfl, rfl, rfl⟩
  · rw [if_neg e, if_neg e, hk]
    by_cases e2 : j = p
    · subst e2
      rw [if_pos rfl, if_pos rfl]
      exact ⟨rfl, rfl, rfl, rfl, rfl, rfl, rfl⟩
    · rw [if_neg e2, if_neg e2]
      exact ⟨rfl, rfl, rfl, rfl, rfl, rfl, rfl⟩
/-- What is known of a reference's tree behind c steps. -/
structure InvR (c : Nat) (T : List S68) : Prop where
  pos : 0 < T.length
  len : T.length ≤ c + 1
  wf : WfR c T
  txt : ∀ i : Nat, (rd_T68 T (i : Int)).f0 = 3 → (rd_T68 T (i : Int)).f3.size ≤ c
theorem InvR.txt' {c : Nat} {T : List S68} (h : InvR c T) (i : Int) (hk : (rd_T68 T i).f0 = 3) : (rd_T68 T i).f3.size ≤ c := h.txt i.toNat hk
theorem InvR.mono {c d : Nat} {T : List S68} (h : InvR c T) (hd : c ≤ d) : InvR d T := ⟨h.pos, by have := h.len; omega, ⟨h.wf.up, h.wf.kids, fun i hi => Nat.le_trans (h.wf.short i hi) hd⟩, fun i hk => Nat.le_trans (h.txt i hk) hd⟩
theorem InvR.doc : InvR 0 refOnly := by
  refine ⟨by decide, by decide, ⟨fun i hi => ?_, fun i hi => ?_, fun i hi => ?_⟩, fun i hk => ?_⟩
  · obtain rfl : i = 0 := by simpa [refOnly] using hi
    decide
  · obtain rfl : i = 0 := by simpa [refOnly] using hi
    intro x hx
    exact absurd hx (by show ¬ x ∈ ([] : List Int); simp)
  · obtain rfl : i = 0 := by simpa [refOnly] using hi
    decide
  · match i, hk with
    | 0, hk => exact absurd hk (by decide)
    | i + 1, hk => exact absurd hk (by show ¬ ((0 : Int) = 3); decide)
theorem InvR.make {c : Nat} {T : List S68} (h : InvR c T) (x : S68) (h5 : x.f5 = -1) (h6 : x.f6 = []) (hx : x.f0 = 3 → x.f3.size ≤ c + 1) : InvR (c + 1) (T ++ [x]) := by
  refine ⟨by simp, by have := h.len; simp; omega, ⟨fun i hi => ?_, fun i hi => ?_, fun i hi => ?_⟩, fun i hk => ?_⟩
  · rw [rrd_app]
    by_cases h1 : i < T.length
    · rw [if_pos h1]
      exact h.wf.up i h1
    · have h2 : i = T.length := by simp at hi; omega
      rw [if_neg h1, if_pos h2, h5]
      omega
  · unfold kidsOf
    rw [rrd_app]
    by_cases h1 : i < T.length
    · rw [if_pos h1]
      intro y hy
      have := h.wf.kids i h1 y hy
      exact ⟨this.1, by simp; omega⟩
    · have h2 : i = T.length := by simp at hi; omega
      rw [if_neg h1, if_pos h2, h6]
      intro y hy
      simp at hy
  · unfold kidsOf
    rw [rrd_app]
    by_cases h1 : i < T.length
    · rw [if_pos h1]
      exact Nat.le_succ_of_le (h.wf.short i h1)
    · have h2 : i = T.length := by simp at hi; omega
      rw [if_neg h1, if_pos h2, h6]
      exact Nat.zero_le _
  · rw [rrd_app] at hk ⊢
    by_cases h1 : i < T.length
    · rw [if_pos h1] at hk ⊢
      exact Nat.le_succ_of_le (h.txt i hk)
    · rw [if_neg h1] at hk ⊢
      by_cases h2 : i = T.length
      · rw [if_pos h2] at hk ⊢
        exact hx hk
      · rw [if_neg h2] at hk
        exact absurd hk (by decide)
theorem InvR.lay {c : Nat} {T : List S68} (h : InvR c T) (n p : Nat) (hn : n < T.length) (hp : p < n) : InvR (c + 1) (rlay T n p) := by
  have hr := rlay_rd T n p hn (by omega)
  refine ⟨by rw [rlay_length]; exact h.pos, by rw [rlay_length]; have := h.len; omega, ⟨fun i hi => ?_, fun i hi => ?_, fun i hi => ?_⟩, fun i hk => ?_⟩
  · rw [rlay_length] at hi
    rw [(hr i).2.2.2.2.2.1]
    by_cases e : i = n
    · rw [if_pos e]
      omega
    · rw [if_neg e]
      exact h.wf.up i hi
  · rw [rlay_length] at hi ⊢
    unfold kidsOf
    rw [(hr i).2.2.2.2.2.2]
    by_cases e : i = p
    · rw [if_pos e]
      intro y hy
      rcases List.mem_append.1 hy with hy | hy
      · exact h.wf.kids p (by omega) y hy
      · obtain rfl : y = (n : Int) := by simpa using hy
        omega
    · rw [if_neg e]
      exact h.wf.kids i hi
  · rw [rlay_length] at hi
    unfold kidsOf
    rw [(hr i).2.2.2.2.2.2]
    by_cases e : i = p
    · rw [if_pos e, List.length_append, List.length_singleton]
      exact Nat.succ_le_succ (h.wf.short p (by omega))
    · rw [if_neg e]
      exact Nat.le_succ_of_le (h.wf.short i hi)
  · rw [(hr i).1] at hk
    rw [(hr i).2.2.2.1]
    exact Nat.le_succ_of_le (h.txt i hk)
theorem InvR.put {c : Nat} {T : List S68} (h : InvR c T) (p : Int) : InvR (c + 1) (rputAt T p) := by
  unfold rputAt
  split
  · rename_i hc
    have h1 := of_decide_eq_true hc.1
    exact h.lay _ _ (by have := h.pos; omega) (by omega)
  · exact h.mono (Nat.le_succ _)
theorem InvR.write {c : Nat} {T : List S68} (h : InvR c T) (v at_ p : Int) (h0 : 0 ≤ v) (h1 : v ≤ 127) : InvR (c + 2) (rwriteAt T v at_ p) := by
  unfold rwriteAt
  split
  · rename_i hm
    have hm2 := of_decide_eq_true hm
    split
    · rename_i ht
      obtain ⟨t1, t2⟩ := of_decide_eq_true ht
      have hpn : ((p.toNat : Nat) : Int) = p := by omega
      have hkid := h.wf.kids p.toNat (by omega)
      rw [hpn] at hkid
      have hlk : lastKid T p ∈ kidsOf T p := by
        unfold lastKid rd
        rw [List.getD_eq_getElem?_getD, show (((kidsOf T p).length - 1 : Nat) : Int).toNat = (kidsOf T p).length - 1 by simp, List.getElem?_eq_getElem (by omega)]
        exact List.getElem_mem _
      obtain ⟨l0, l1⟩ := hkid _ hlk
      have hsz := h.txt' _ t2
      have hlt : (lastKid T p).toNat < T.length := by omega
      have hd : ((rd_T68 T (lastKid T p)).f3 ++ Utf8.encode v).size ≤ c + 1 := by
        rw [ByteArray.size_append, enc_low v h0 h1]
        exact Nat.add_le_add_right hsz 1
      generalize hdd : (rd_T68 T (lastKid T p)).f3 ++ Utf8.encode v = dd at hd
      have hlen : (putDat T (lastKid T p).toNat dd).length = T.length := List.length_set ..
      have hrr : ∀ j : Nat, (rd_T68 (putDat T (lastKid T p).toNat dd) (j : Int)).f5 = (rd_T68 T (j : Int)).f5 ∧ (rd_T68 (putDat T (lastKid T p).toNat dd) (j : Int)).f6 = (rd_T68 T (j : Int)).f6 := fun j => by
        unfold putDat
        rw [rrd_set _ _ _ _ hlt]
        by_cases e : j = (lastKid T p).toNat
        · rw [if_pos e, e]
          exact ⟨rfl, rfl⟩
        · rw [if_neg e]
          exact ⟨rfl, rfl⟩
      refine ⟨by rw [hlen]; exact h.pos, by rw [hlen]; have := h.len; omega, ⟨fun i hi => ?_, fun i hi => ?_, fun i hi => ?_⟩, fun i hk => ?_⟩
      · rw [(hrr i).1]
        exact h.wf.up i (by omega)
      · unfold kidsOf
        rw [(hrr i).2, hlen]
        exact h.wf.kids i (by omega)
      · unfold kidsOf
        rw [(hrr i).2]
        exact Nat.le_trans (h.wf.short i (by omega)) (Nat.le_add_right _ _)
      · unfold putDat at hk ⊢
        rw [rrd_set _ _ _ _ hlt] at hk ⊢
        by_cases e : i = (lastKid T p).toNat
        · rw [if_pos e]
          exact Nat.le_succ_of_le hd
        · rw [if_neg e] at hk ⊢
          exact Nat.le_trans (h.txt i hk) (Nat.le_add_right _ _)
    · have hnew := h.make (rnewText v at_) rfl rfl (fun _ => by show (Utf8.encode v).size ≤ c + 1; rw [enc_low v h0 h1]; exact Nat.le_add_left 1 c)
      exact hnew.lay _ _ (by simp) (by omega)
  · exact h.mono (Nat.le_add_right _ _)
end Go.Proofs.YtomdidopflebjaaGreatDoor.PM
namespace Go.Proofs.YtomdidopflebjaaGreatDoor.PM
open Go.RowKit Go.Proofs.YtomdidopflebjaaGreatDoorW.PrintWords Go.Proofs.YtomdidopflebjaaGreatDoorW.PrintLast Go.Proofs.YtomdidopflebjaaGreatDoorW.PrintMore
def attrs8 (m : S54) (k : Nat) : List S71 := (m.f2.take k).map fun x => ⟨x.f0, x.f1⟩
def rattrs8 (m : S54) (k : Nat) : List S72 := (m.f2.take k).map fun x => ⟨x.f0, x.f1⟩
def elemOf (m : S54) : S59 := ⟨2, m.f4, m.f0, ⟨#[]⟩, attrs8 m 8⟩
def relemOf (m : S54) : S68 := ⟨2, m.f4, m.f0, ⟨#[]⟩, rattrs8 m 8, -1, []⟩
def chars (m : S54) (k : Nat) : List Int := (m.f1.data.toList.take k).map fun c => (c.toNat : Int) % 128
def spot (n : Nat) (p : Int) : Int := (p.tmod n + n).tmod n
structure MS where
  T : List S110
  R : List S68
  a : List Int
  b : List Int
def writesT (T : List S110) (cs : List Int) (at_ n : Int) : List S110 := cs.foldl (fun T v => writeAt T v at_ n) T
def writesR (R : List S68) (cs : List Int) (at_ n : Int) : List S68 := cs.foldl (fun R v => rwriteAt R v at_ n) R
def stepM (s : MS) (m : S54) : MS :=
  ⟨writesT (putAt (s.T ++ [⟨elemOf m, loose107⟩]) (rd s.a (spot s.a.length m.f3))) (chars m 6) m.f4 s.T.length,
   writesR (rputAt (s.R ++ [relemOf m]) (rd s.b (spot s.a.length m.f3))) (chars m 6) m.f4 s.R.length,
   s.a ++ [(s.T.length : Int)], s.b ++ [(s.R.length : Int)]⟩
def initM : MS := ⟨docOnly, refOnly, [0], [0]⟩
def stM (l : List S54) (i : Nat) : MS := (l.take i).foldl stepM initM
def beadlelaw21_made.f (l : List S54) : Option (List S113 × List S105) := some ([⟨(stM l 60).T⟩], [⟨(stM l 60).R⟩])
theorem stM_succ (l : List S54) (i : Nat) (hi : i < l.length) : stM l (i + 1) = stepM (stM l i) (rd_T54 l (i : Int)) := by
  unfold stM rd_T54
  rw [List.take_add_one, List.foldl_append, List.getElem?_eq_getElem hi]
  simp [List.getD_eq_getElem?_getD, hi]
theorem chars_mem {m : S54} {k : Nat} {v : Int} (h : v ∈ chars m k) : 0 ≤ v ∧ v ≤ 127 := by
  obtain ⟨c, _, rfl⟩ := List.mem_map.1 h
  omega
theorem writesT_inv (cs : List Int) (hcs : ∀ v ∈ cs, 0 ≤ v ∧ v ≤ 127) (at_ n : Int) : ∀ {c : Nat} {T : List S110}, InvT c T → InvT (c + cs.length) (writesT T cs at_ n) := by
  induction cs with
  | nil => intro c T h; exact h
  | cons v cs ih =>
    intro c T h
    have h1 := ih (fun v hv => hcs v (List.mem_cons_of_mem _ hv)) (h.write v at_ n (hcs v (List.mem_cons_self ..)).1 (hcs v (List.mem_cons_self ..)).2)
    rw [List.length_cons, show c + (cs.length + 1) = c + 1 + cs.length by omega]
    exact h1
theorem writesR_inv (cs : List Int) (hcs : ∀ v ∈ cs, 0 ≤ v ∧ v ≤ 127) (at_ n : Int) : ∀ {c : Nat} {T : List S68}, InvR c T → InvR (c + 2 * cs.length) (writesR T cs at_ n) := by
  induction cs with
  | nil => intro c T h; exact h
  | cons v cs ih =>
    intro c T h
    have h1 := ih (fun v hv => hcs v (List.mem_cons_of_mem _ hv)) (h.write v at_ n (hcs v (List.mem_cons_self ..)).1 (hcs v (List.mem_cons_self ..)).2)
    rw [List.length_cons, show c + 2 * (cs.length + 1) = c + 2 + 2 * cs.length by omega]
    exact h1
theorem chars_length (m : S54) (k : Nat) : (chars m k).length ≤ k := by
  unfold chars
  rw [List.length_map, List.length_take]
  exact Nat.min_le_left _ _
structure InvM (i : Nat) (s : MS) : Prop where
  t : InvT (20 * i) s.T
  r : InvR (20 * i) s.R
  a : s.a.length = i + 1
  b : s.b.length = i + 1
theorem InvM.init : InvM 0 initM := ⟨InvT.doc, InvR.doc, rfl, rfl⟩
theorem InvM.made {i : Nat} {s : MS} (h : InvM i s) (m : S54) : InvT (20 * i + 1) (s.T ++ [⟨elemOf m, loose107⟩]) ∧ InvR (20 * i + 1) (s.R ++ [relemOf m]) :=
  ⟨h.t.make _ (fun e => absurd e (by show ¬ (2 : Int) = 3; decide)), h.r.make _ rfl rfl (fun e => absurd e (by show ¬ (2 : Int) = 3; decide))⟩
theorem InvM.step {i : Nat} {s : MS} (h : InvM i s) (m : S54) : InvM (i + 1) (stepM s m) := by
  obtain ⟨h1, h2⟩ := h.made m
  have hc := chars_length m 6
  refine ⟨(writesT_inv (chars m 6) (fun v hv => chars_mem hv) m.f4 s.T.length (h1.put (rd s.a (spot s.a.length m.f3)))).mono (by omega), (writesR_inv (chars m 6) (fun v hv => chars_mem hv) m.f4 s.R.length (h2.put (rd s.b (spot s.a.length m.f3)))).mono (by omega), ?_, ?_⟩
  · show (s.a ++ [_]).length = _
    rw [List.length_append, h.a]
    rfl
  · show (s.b ++ [_]).length = _
    rw [List.length_append, h.b]
    rfl
theorem invM (l : List S54) : ∀ i, i ≤ l.length → InvM i (stM l i)
  | 0, _ => by
    have : stM l 0 = initM := by unfold stM; rw [List.take_zero]; rfl
    rw [this]
    exact InvM.init
  | i + 1, hi => by
    rw [stM_succ l i hi]
    exact (invM l i (by omega)).step _
theorem stM_end (l : List S54) (i : Nat) (hi : l.length ≤ i) : stM l i = stM l l.length := by
  unfold stM
  rw [List.take_of_length_le hi, List.take_of_length_le (Nat.le_refl _)]
end Go.Proofs.YtomdidopflebjaaGreatDoor.PM
namespace Go.Proofs.YtomdidopflebjaaGreatDoor.PM
open Go.RowKit Go.Proofs.YtomdidopflebjaaGreatDoorW.PrintWords Go.Proofs.YtomdidopflebjaaGreatDoorW.PrintLast Go.Proofs.YtomdidopflebjaaGreatDoorW.PrintMore
theorem infoP71 : (Tryz.prog.info? 71).map (fun i => (i.zero, i.size, i.bytes)) = some (some (.agg #[.string ⟨#[]⟩, .string ⟨#[]⟩]), 2, 32) := by kernel_rfl
theorem infoP72 : (Tryz.prog.info? 72).map (fun i => (i.zero, i.size, i.bytes)) = some (some (.agg #[.string ⟨#[]⟩, .string ⟨#[]⟩]), 2, 32) := by kernel_rfl
theorem attrs8_succ (m : S54) (j : Nat) (hj : j < m.f2.length) : attrs8 m (j + 1) = attrs8 m j ++ [⟨(rd_T69 m.f2 (j : Int)).f0, (rd_T69 m.f2 (j : Int)).f1⟩] := by
  unfold attrs8 rd_T69
  rw [List.take_add_one, List.getElem?_eq_getElem hj, List.map_append]
  simp [List.getD_eq_getElem?_getD, hj]
theorem rattrs8_succ (m : S54) (j : Nat) (hj : j < m.f2.length) : rattrs8 m (j + 1) = rattrs8 m j ++ [⟨(rd_T69 m.f2 (j : Int)).f0, (rd_T69 m.f2 (j : Int)).f1⟩] := by
  unfold rattrs8 rd_T69
  rw [List.take_add_one, List.getElem?_eq_getElem hj, List.map_append]
  simp [List.getD_eq_getElem?_getD, hj]
theorem attrs8_length (m : S54) (j : Nat) (hj : j ≤ m.f2.length) : (attrs8 m j).length = j := by
  unfold attrs8
  rw [List.length_map, List.length_take]
  exact Nat.min_eq_left hj
theorem rattrs8_length (m : S54) (j : Nat) (hj : j ≤ m.f2.length) : (rattrs8 m j).length = j := by
  unfold rattrs8
  rw [List.length_map, List.length_take]
  exact Nat.min_eq_left hj
/-- Both new nodes while their attributes are laid: j of the one, k of the other. -/
structure AttrAt (base x y : Nat) (W : World) (m : S54) (j k : Nat) (A B : Option Addr) (c d : Nat) : Prop where
  hx : W.heap[x]? = some (.cells #[.int .i64 2, .int .i64 m.f4, .string m.f0, .string ⟨#[]⟩, .slice A j c] 59 (0, 0))
  ra : Kd.R k71 71 W base (fun _ => True) (.slice A j c) (attrs8 m j)
  hy : W.heap[y]? = some (.cells #[.int .i64 2, .int .i64 m.f4, .string m.f0, .string ⟨#[]⟩, .slice B k d, .int .i64 0, .slice none 0 0] 68 (0, 0))
  rb : Kd.R k72 72 W base (fun _ => True) (.slice B k d) (rattrs8 m k)
/-- A block of one type is no row of another type. -/
theorem blk_ne_row {α : Type} {dk : Kd α} {e base x t : Nat} {W : World} {cs : Array Value} {v : Value} {xs : List α} (hx : W.heap[x]? = some (.cells cs t (0, 0))) (hr : dk.R e W base (fun _ => True) v xs) (ht : t ≠ e) : some x ≠ v.ownBlock := fun e1 => by
  obtain ⟨cs', hc⟩ := Kd.R_typed hr x e1.symm
  rw [hx] at hc
  injection hc with hc
  injection hc with _ hc
  exact ht hc
theorem AttrAt.xy {base x y : Nat} {W : World} {m : S54} {j k : Nat} {A B : Option Addr} {c d : Nat} (h : AttrAt base x y W m j k A B c d) : x ≠ y := fun e => by
  have h1 := h.hx
  rw [e, h.hy] at h1
  injection h1 with h1
  injection h1 with _ h1
  exact absurd h1 (by decide)
theorem attr_parts {base x y : Nat} {W W1 : World} {m : S54} {j k gg cap : Nat} {A B : Option Addr} {c d : Nat} {inner : List Value} {o : Obj} (h : AttrAt base x y W m j k A B c d) (hj : j < m.f2.length) (hbx : base ≤ x) (hbase : base ≤ W.heap.size)
    (hown0 : W.ownsRow base 71 2 (.slice A j c) j inner) (hrep : Reps (k71.M W base (fun k => True ∧ some k ≠ (Value.slice A j c).ownBlock)) 2 (attrs8 m j) inner)
    (hown : W1.ownsRow base 71 2 (.slice (some ⟨gg, 0, none⟩) (j + 1) cap) (j + 1) (inner ++ [.string (rd_T69 m.f2 (j : Int)).f0, .string (rd_T69 m.f2 (j : Int)).f1])) (hg : (W.alloc o).grownBy W1 (Value.slice A j c).ownBlock) (hat : (Value.slice A j c).ownBlock = some gg ∨ gg = W.heap.size + 1) :
    AttrAt base x y (W1.setCell ⟨x, 4, none⟩ (.slice (some ⟨gg, 0, none⟩) (j + 1) cap)) m (j + 1) k (some ⟨gg, 0, none⟩) B cap d ∧ Below base W (W1.setCell ⟨x, 4, none⟩ (.slice (some ⟨gg, 0, none⟩) (j + 1) cap)) := by
  have hg' : W.grownBy W1 (Value.slice A j c).ownBlock := (World.grownBy_alloc W o _).trans hg
  have bx : W1.heap[x]? = some (.cells #[.int .i64 2, .int .i64 m.f4, .string m.f0, .string ⟨#[]⟩, .slice A j c] 59 (0, 0)) := blk_grown h.hx hg' (blk_ne_row h.hx h.ra (by decide))
  have by_ : W1.heap[y]? = some (.cells #[.int .i64 2, .int .i64 m.f4, .string m.f0, .string ⟨#[]⟩, .slice B k d, .int .i64 0, .slice none 0 0] 68 (0, 0)) := blk_grown h.hy hg' (blk_ne_row h.hy h.ra (by decide))
  have hvt := Kd.R_typed h.ra
  have hra : Kd.R k71 71 W1 base (fun _ => True) (.slice (some ⟨gg, 0, none⟩) (j + 1) cap) (attrs8 m (j + 1)) := by
    rw [attrs8_succ m j hj]
    have hl := attrs8_length m j (Nat.le_of_lt hj)
    refine Kd.R_appended (okp := fun k => True ∧ some k ≠ (Value.slice A j c).ownBlock) (fun _ _ => trivial) hrep (k71_mkM W base _ ⟨(rd_T69 m.f2 (j : Int)).f0, (rd_T69 m.f2 (j : Int)).f1⟩) (fun k hk => hk) (fun _ _ => trivial) (by rw [hl]; exact hown) hg' (hat.elim (fun e => .inl e.symm) (fun e => .inr ⟨gg, rfl, by subst e; exact Nat.le_succ _⟩))
  refine ⟨⟨blk_set bx 4 _, Kd.R_set hra bx (by decide) 4 _, blk_far by_ (p := ⟨x, 4, none⟩) (fun e => h.xy e.symm) _, ?_⟩, ((Below.refl base W).grown hg' hbase (fun k hk => (own_base hown0 k hk).1)).setCell hbx _⟩
  have hrb := Kd.R_grown (Kd.R_apart' h.rb (v := .slice A j c) (e' := 71) (fun k hk => hvt k hk) (by decide)) hg' (fun k hk => hk.2)
  exact Kd.R_set (Kd.R_mono hrb (fun _ _ => trivial)) bx (by decide) 4 _
theorem rattr_parts {base x y : Nat} {W W1 : World} {m : S54} {j k gg cap : Nat} {A B : Option Addr} {c d : Nat} {inner : List Value} {o : Obj} (h : AttrAt base x y W m j k A B c d) (hk : k < m.f2.length) (hby : base ≤ y) (hbase : base ≤ W.heap.size)
    (hown0 : W.ownsRow base 72 2 (.slice B k d) k inner) (hrep : Reps (k72.M W base (fun i => True ∧ some i ≠ (Value.slice B k d).ownBlock)) 2 (rattrs8 m k) inner)
    (hown : W1.ownsRow base 72 2 (.slice (some ⟨gg, 0, none⟩) (k + 1) cap) (k + 1) (inner ++ [.string (rd_T69 m.f2 (k : Int)).f0, .string (rd_T69 m.f2 (k : Int)).f1])) (hg : (W.alloc o).grownBy W1 (Value.slice B k d).ownBlock) (hat : (Value.slice B k d).ownBlock = some gg ∨ gg = W.heap.size + 1) :
    AttrAt base x y (W1.setCell ⟨y, 4, none⟩ (.slice (some ⟨gg, 0, none⟩) (k + 1) cap)) m j (k + 1) A (some ⟨gg, 0, none⟩) c cap ∧ Below base W (W1.setCell ⟨y, 4, none⟩ (.slice (some ⟨gg, 0, none⟩) (k + 1) cap)) := by
  have hg' : W.grownBy W1 (Value.slice B k d).ownBlock := (World.grownBy_alloc W o _).trans hg
  have bx : W1.heap[x]? = some (.cells #[.int .i64 2, .int .i64 m.f4, .string m.f0, .string ⟨#[]⟩, .slice A j c] 59 (0, 0)) := blk_grown h.hx hg' (blk_ne_row h.hx h.rb (by decide))
  have by_ : W1.heap[y]? = some (.cells #[.int .i64 2, .int .i64 m.f4, .string m.f0, .string ⟨#[]⟩, .slice B k d, .int .i64 0, .slice none 0 0] 68 (0, 0)) := blk_grown h.hy hg' (blk_ne_row h.hy h.rb (by decide))
  have hvt := Kd.R_typed h.rb
  have hrb : Kd.R k72 72 W1 base (fun _ => True) (.slice (some ⟨gg, 0, none⟩) (k + 1) cap) (rattrs8 m (k + 1)) := by
    rw [rattrs8_succ m k hk]
    have hl := rattrs8_length m k (Nat.le_of_lt hk)
    refine Kd.R_appended (okp := fun i => True ∧ some i ≠ (Value.slice B k d).ownBlock) (fun _ _ => trivial) hrep (k72_mkM W base _ ⟨(rd_T69 m.f2 (k : Int)).f0, (rd_T69 m.f2 (k : Int)).f1⟩) (fun k hk => hk) (fun _ _ => trivial) (by rw [hl]; exact hown) hg' (hat.elim (fun e => .inl e.symm) (fun e => .inr ⟨gg, rfl, by subst e; exact Nat.le_succ _⟩))
  refine ⟨⟨blk_far bx (p := ⟨y, 4, none⟩) h.xy _, ?_, blk_set by_ 4 _, Kd.R_set hrb by_ (by decide) 4 _⟩, ((Below.refl base W).grown hg' hbase (fun k hk => (own_base hown0 k hk).1)).setCell hby _⟩
  have hra := Kd.R_grown (Kd.R_apart' h.ra (v := .slice B k d) (e' := 72) (fun k hk => hvt k hk) (by decide)) hg' (fun k hk => hk.2)
  exact Kd.R_set (Kd.R_mono hra (fun _ _ => trivial)) by_ (by decide) 4 _
end Go.Proofs.YtomdidopflebjaaGreatDoor.PM
namespace Go.Proofs.YtomdidopflebjaaGreatDoor.PM
open Go.RowKit Go.Proofs.YtomdidopflebjaaGreatDoorW.PrintWords Go.Proofs.YtomdidopflebjaaGreatDoorW.PrintLast
/-- The pointer to a row's head; none: to no element. -/
def toPtr : Value → Value
  | .slice A n _ => .pointer (if n = 0 then none else A)
  | v => v
theorem toPtr_slice (A : Option Addr) (n c : Nat) : toPtr (.slice A n c) = .pointer (if n = 0 then none else A) := rfl
theorem ptr_nil {α : Type} {l : List α} {A p : Option Addr} (h : p = if l.length = 0 then none else A) : l = [] → p = none := by
  rintro rfl
  exact h
theorem ptr_C {α : Type} {d : Kd α} {w : World} {l : List α} {A p : Option Addr} (h : p = if l.length = 0 then none else A) (hc : Kd.C d w A l.length l) : Kd.C d w p l.length l := by
  by_cases e : l.length = 0
  · obtain rfl := List.length_eq_zero_iff.1 e
    obtain rfl : p = none := h
    exact Kd.C_nil _ _
  · rw [if_neg e] at h
    subst h
    exact hc
end Go.Proofs.YtomdidopflebjaaGreatDoor.PM
namespace Go.Proofs.YtomdidopflebjaaGreatDoor.PM
open Go.RowKit Go.Proofs.YtomdidopflebjaaGreatDoorW.PrintWords Go.Proofs.YtomdidopflebjaaGreatDoorW.PrintLast Go.Proofs.YtomdidopflebjaaGreatDoorW.PrintMore
/-- A row of one number, just laid. -/
theorem R_one (w : World) (base : Nat) (hb : base ≤ w.heap.size) : (Kd.int .i64).R 3 (w.alloc (.cells #[.int .i64 0] 3)) base (fun _ => True) (.slice (some ⟨w.heap.size, 0, none⟩) 1 1) [0] :=
  ⟨fun _ _ => trivial, _, World.ownsRow_lit (base := base) (e := 3) (size := 1) w #[.int .i64 0] 1 hb (by decide) (by rfl), (Reps.none _ _).snoc (p := (0 : Int)) (c := [.int .i64 0]) rfl (by rfl)⟩
theorem DomAt.R {base g : Nat} {W : World} {T : List S110} (h : DomAt base W g T) : Kd.R k113 113 W base (fun _ => True) (.slice (some ⟨g, 0, none⟩) 1 1) [⟨T⟩] := by
  obtain ⟨hl, v, hb, hr⟩ := h
  refine ⟨fun _ _ => trivial, [v], ⟨by rfl, .inr ⟨g, 1, #[v], rfl, hl, hb, Nat.le_refl _, by decide, by rfl, by rfl⟩⟩, (Reps.none _ _).snoc (p := (⟨T⟩ : S113)) (c := [v]) ?_ (by rfl)⟩
  refine k113_mkM W base _ ⟨T⟩ (v0 := v) ?_
  refine Kd.R_apart' hr (v := .slice (some ⟨g, 0, none⟩) 1 1) (e' := 113) (fun k hk => ?_) (by decide)
  obtain rfl : g = k := by simpa [Value.ownBlock] using hk
  exact ⟨_, hb⟩
theorem RefAt.R {ok : Nat → Prop} {base g : Nat} {W : World} {T : List S68} (h0 : RefAt ok base W g T) : Kd.R k105 105 W base (fun _ => True) (.slice (some ⟨g, 0, none⟩) 1 1) [⟨T⟩] := by
  obtain ⟨hl, v, hb, hr⟩ := h0.mono (ok' := fun _ => True) (Nat.le_refl _) (fun _ _ _ => trivial)
  refine ⟨fun _ _ => trivial, [v], ⟨by rfl, .inr ⟨g, 1, #[v], rfl, hl, hb, Nat.le_refl _, by decide, by rfl, by rfl⟩⟩, (Reps.none _ _).snoc (p := (⟨T⟩ : S105)) (c := [v]) ?_ (by rfl)⟩
  refine k105_mkM W base _ ⟨T⟩ (v0 := v) ?_
  refine Kd.R_apart' hr (v := .slice (some ⟨g, 0, none⟩) 1 1) (e' := 105) (fun k hk => ?_) (by decide)
  obtain rfl : g = k := by simpa [Value.ownBlock] using hk
  exact ⟨_, hb⟩
theorem two_new (W : World) (cs1 cs2 : Array Value) (t1 t2 : TypeId) : ((W.alloc (.cells cs1 t1)).alloc (.cells cs2 t2)).drew.heap[W.heap.size]? = some (.cells cs1 t1 (0, 0)) ∧ ((W.alloc (.cells cs1 t1)).alloc (.cells cs2 t2)).drew.heap[W.heap.size + 1]? = some (.cells cs2 t2 (0, 0)) ∧ Below W.heap.size W ((W.alloc (.cells cs1 t1)).alloc (.cells cs2 t2)).drew := by
  refine ⟨blk_alloc (blk_new W _) _, ?_, below_drew1 (below_alloc (below_alloc (Below.refl _ _) _) _)⟩
  have h := blk_new (W.alloc (.cells cs1 t1)) (.cells cs2 t2)
  rw [show (W.alloc (.cells cs1 t1)).heap.size = W.heap.size + 1 by simp] at h
  exact h
/-- A block that is none of two rows. -/
def okAB (A B : Option Addr) (k : Nat) : Prop := some k ≠ (Value.slice A 0 0).ownBlock ∧ some k ≠ (Value.slice B 0 0).ownBlock
/-- What stands in memory behind i rounds. -/
structure MadeAt (base gT gR : Nat) (W : World) (s : MS) (A6 : Option Addr) (c6 : Nat) (A7 : Option Addr) (c7 : Nat) : Prop where
  t : DomAt base W gT s.T
  r : RefAt (okAB A6 A7) base W gR s.R
  a : (Kd.int .i64).R 3 W base (fun _ => True) (.slice A6 s.a.length c6) s.a
  b : (Kd.int .i64).R 3 W base (fun _ => True) (.slice A7 s.b.length c7) s.b
  ne : ∀ k, (Value.slice A6 s.a.length c6).ownBlock = some k → some k ≠ (Value.slice A7 s.b.length c7).ownBlock
theorem MadeAt.below {base gT gR : Nat} {W W' : World} {s : MS} {A6 A7 : Option Addr} {c6 c7 : Nat} (h : MadeAt base gT gR W s A6 c6 A7 c7) (hb : Below W.heap.size W W') : MadeAt base gT gR W' s A6 c6 A7 c7 :=
  ⟨h.t.below hb, h.r.below hb, Kd.R_below h.a hb, Kd.R_below h.b hb, h.ne⟩
theorem MadeAt.dom {base gT gR : Nat} {W W' : World} {s : MS} {A6 A7 : Option Addr} {c6 c7 : Nat} {T' : List S110} (h : MadeAt base gT gR W s A6 c6 A7 c7) (hd : DomAt base W' gT T') (hf : TFrame [110, 113] W W') : MadeAt base gT gR W' ⟨T', s.R, s.a, s.b⟩ A6 c6 A7 c7 :=
  ⟨hd, h.r.frame hf (by decide), hf.R h.a (by decide), hf.R h.b (by decide), h.ne⟩
theorem MadeAt.ref {base gT gR : Nat} {W W' : World} {s : MS} {A6 A7 : Option Addr} {c6 c7 : Nat} {R' : List S68} (h : MadeAt base gT gR W s A6 c6 A7 c7) (hd : RefAt (okAB A6 A7) base W' gR R') (hf : TFrame [68, 105] W W') : MadeAt base gT gR W' ⟨s.T, R', s.a, s.b⟩ A6 c6 A7 c7 :=
  ⟨TreeAt.frame h.t hf (by decide), hd, hf.R h.a (by decide), hf.R h.b (by decide), h.ne⟩
theorem MadeAt.ok {base gT gR : Nat} {W : World} {s : MS} {A6 A7 : Option Addr} {c6 c7 : Nat} (h : MadeAt base gT gR W s A6 c6 A7 c7) : ∀ k, W.heap.size ≤ k → okAB A6 A7 k := fun k hk =>
  ⟨fun e => absurd (Kd.R_lt h.a k (by cases A6 <;> simpa [Value.ownBlock] using e.symm)) (by omega), fun e => absurd (Kd.R_lt h.b k (by cases A7 <;> simpa [Value.ownBlock] using e.symm)) (by omega)⟩
end Go.Proofs.YtomdidopflebjaaGreatDoor.PM
