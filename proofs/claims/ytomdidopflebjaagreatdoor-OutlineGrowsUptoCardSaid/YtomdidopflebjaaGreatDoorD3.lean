/- Merged by a program of this session out of its own texts: PMx8, HCompareS, PMx9, HCmp, HCompact, Lay2, OrdS, HSort, HOCheck, HTree, HMake, HLay, HCut. No condition beside those in each statement. -/
import Derived.BigQuiet
import Derived.Deep.AppendLies
import Derived.Deep.QuietTactic
import Derived.Deep.RegionHeld3
import Derived.Deep.RegionLaw
import Derived.Lib.Bytealg
import Derived.Lib.Hide
import Derived.Lib.SliceRun
import Derived.Lib.SlicesCompact
import Derived.Outline
import Derived.OwnWalk
import Derived.RegionTactic
import Derived.Shelf.GgSortFunc.RowK
import Derived.Shelf.SlGeneric
import Derived.Shelf.SlSortCmp.InsertionK
import Derived.Shelf.SlSortCmp.NoneTotal
import Derived.Shelf.SlicesQ.Load
import Derived.Shelf.SlicesQ.Reverse
import Derived.Sort.WalkB12
import Derived.Test.YtomdidopflebjaaGreatDoorD1
import Derived.Test.YtomdidopflebjaaGreatDoorD2
import Derived.Test.YtomdidopflebjaaGreatDoorProg
namespace Go.Proofs.YtomdidopflebjaaGreatDoor.PM
open Go.RowKit Go.Proofs.YtomdidopflebjaaGreatDoorW.PrintWords Go.Proofs.YtomdidopflebjaaGreatDoorW.PrintLast Go.Proofs.YtomdidopflebjaaGreatDoorW.PrintMore
attribute [local go_sem] max2_int min2_int max_two min_two max_three min_three max_four min_four   -- for this text's walks alone
set_option linter.unusedVariables false
set_option linter.unusedSimpArgs false
def cmp_Or_int.l0 : Nat → Int → List Int → Int → Int → Option (Int)
  | 0, _, _, _, _ => none
  | k + 1, x3, x6, x7, x8 => if x8 < x7 then (if 0 ≤ x8 then (if x8 < (x6.length : Int) then (if (rd x6 x8) = x3 then (cmp_Or_int.l0 k x3 x6 x7 (wrap64 (x8 + 1))) else (some (rd x6 x8))) else (none)) else (none)) else (some x3)
def cmp_Or_int.f (k : Nat) (l0 : List Int) : Option (Int) := cmp_Or_int.l0 k 0 l0 (l0.length : Int) 0
set_option maxHeartbeats 8000000 in
set_option maxRecDepth 100000 in
theorem cmp_Or_int.calls (k : Nat) (A0 : Option Addr) (c0 : Nat) (l0 : List Int) (r : Int) (w : World) (hr0 : Kd.C (Kd.int .i64) w A0 l0.length l0) (hc0 : l0.length ≤ c0) (h : cmp_Or_int.f k l0 = some r) :
    Calls Tryz.prog 97 #[.slice A0 l0.length c0] w fun e w' => e = .returned (.int .i64 r) ∧ Drawn0 w w' := by
  have HR0 := Aside0.mk hr0
  have HC0 := Aside0.mk hc0
  clear hr0 hc0
  have H : (cmp_Or_int.l0 k 0 l0 (l0.length : Int) 0) = some r := h
  clear h
  have H' := Aside0.mk H
  clear H
  go_enter Tryz.func97, Tryz.ntmps97
  go_wp2
  go_loopg [8] k (fun kq v8 w' => ∃ (x8_1 : Int), v8 = .int .i64 x8_1 ∧ Aside0 (cmp_Or_int.l0 kq 0 l0 (l0.length : Int) x8_1 = some r) ∧ Aside0 (kq ≤ k) ∧ Drawn0 w w')
  case atStart => exact ⟨(0), (by first | rfl | (simp; done) | (simp [*]; done)), H', ⟨Nat.le_refl _⟩, by repeat (first | exact Drawn0.refl _ | apply Drawn0.step)⟩
  case round =>
    clear H'
    obtain ⟨x8_1, rfl, HA, HK1, ⟨m1, rfl⟩⟩ := hrel
    cases gk with
    | zero => exact absurd HA.out (by simp [cmp_Or_int.l0])
    | succ k1 =>
      have H := HA.out
      clear HA
      simp only [cmp_Or_int.l0] at H
      by_cases c2 : x8_1 < (l0.length : Int)
      · rw [if_pos c2] at H
        have c2b0 : decide (x8_1 < (l0.length : Int)) = true := decide_eq_true c2
        clear c2
        by_cases c3 : 0 ≤ x8_1
        · rw [if_pos c3] at H
          have c3b0 : decide (0 ≤ x8_1) = true := decide_eq_true c3
          clear c3
          by_cases c4 : x8_1 < (l0.length : Int)
          · rw [if_pos c4] at H
            have c4b0 : decide (x8_1 < (l0.length : Int)) = true := decide_eq_true c4
            clear c4
            by_cases c5 : (rd l0 x8_1) = 0
            · rw [if_pos c5] at H
              have c5b0 : ((rd l0 x8_1) == 0) = true := beq_iff_eq.mpr c5
              have c5b1 : ((rd l0 x8_1) != 0) = false := bne_eq_false_iff_eq.mpr c5
              clear c5
              have H' := Aside0.mk H
              clear H
              have p179 : 0 ≤ (x8_1 : Int) := of_decide_eq_true (by first | (with_reducible assumption) | assumption)
              have q179 : x8_1 < (l0.length : Int) := of_decide_eq_true (by first | (with_reducible assumption) | assumption)
              obtain ⟨ad179, e179, hx179_0⟩ := Kd.at_int HR0.out x8_1 p179 q179
              cases e179
              replace p179 := eq_true p179
              replace q179 := eq_true q179
              go_wp2
              go_roundg k1
              case measure => have := HK1.out; omega
              case rel => exact ⟨(wrap64 (x8_1 + 1)), (by first | rfl | (simp; done) | (simp [*]; done)), H', ⟨by have := HK1.out; omega⟩, by repeat (first | exact Drawn0.refl _ | apply Drawn0.step)⟩
            · rw [if_neg c5] at H
              have c5b0 : ((rd l0 x8_1) == 0) = false := beq_eq_false_iff_ne.mpr c5
              have c5b1 : ((rd l0 x8_1) != 0) = true := bne_iff_ne.mpr c5
              obtain rfl := Option.some.inj H
              have p179 : 0 ≤ (x8_1 : Int) := of_decide_eq_true (by first | (with_reducible assumption) | assumption)
              have q179 : x8_1 < (l0.length : Int) := of_decide_eq_true (by first | (with_reducible assumption) | assumption)
              obtain ⟨ad179, e179, hx179_0⟩ := Kd.at_int HR0.out x8_1 p179 q179
              cases e179
              replace p179 := eq_true p179
              replace q179 := eq_true q179
              go_wp2
              go_ret
              exact ⟨by first | rfl | (simp; done) | (simp [*]; done), by repeat (first | exact Drawn0.refl _ | apply Drawn0.step)⟩
          · rw [if_neg c4] at H
            exact absurd H (by simp)
        · rw [if_neg c3] at H
          exact absurd H (by simp)
      · rw [if_neg c2] at H
        have c2b0 : decide (x8_1 < (l0.length : Int)) = false := decide_eq_false c2
        clear c2
        obtain rfl := Option.some.inj H
        go_wp2
        go_ret
        exact ⟨by first | rfl | (simp; done) | (simp [*]; done), by repeat (first | exact Drawn0.refl _ | apply Drawn0.step)⟩
def cmp_isNaN_int.f (a0 : Int) : Option (Bool) := some (a0 != a0)
set_option maxHeartbeats 8000000 in
set_option maxRecDepth 100000 in
theorem cmp_isNaN_int.calls (a0 : Int) (r : Bool) (w : World) (h : cmp_isNaN_int.f a0 = some r) :
    Calls Tryz.prog 118 #[.int .i64 a0] w fun e w' => e = .returned (.bool r) ∧ Drawn0 w w' := by
  have H : (some (a0 != a0)) = some r := h
  clear h
  obtain rfl := Option.some.inj H
  go_enter Tryz.func118, Tryz.ntmps118
  go_wp2
  go_ret
  exact ⟨by first | rfl | (simp; done) | (simp [*]; done), by repeat (first | exact Drawn0.refl _ | apply Drawn0.step)⟩
def cmp_Compare_int.f (a0 : Int) (a1 : Int) : Option (Int) := (cmp_isNaN_int.f a0).bind fun t180 => ((cmp_isNaN_int.f a1).bind fun t181 => (if t180 = true then (if t181 = true then (some 0) else (some (-1))) else (if t181 = true then (some 1) else (if a0 < a1 then (some (-1)) else (if a0 > a1 then (some 1) else (some 0))))))
set_option maxHeartbeats 8000000 in
set_option maxRecDepth 100000 in
theorem cmp_Compare_int.calls (a0 : Int) (a1 : Int) (r : Int) (w : World) (h : cmp_Compare_int.f a0 a1 = some r) :
    Calls Tryz.prog 98 #[.int .i64 a0, .int .i64 a1] w fun e w' => e = .returned (.int .i64 r) ∧ Drawn0 w w' := by
  have H : ((cmp_isNaN_int.f a0).bind fun t180 => ((cmp_isNaN_int.f a1).bind fun t181 => (if t180 = true then (if t181 = true then (some 0) else (some (-1))) else (if t181 = true then (some 1) else (if a0 < a1 then (some (-1)) else (if a0 > a1 then (some 1) else (some 0))))))) = some r := h
  clear h
  replace H := Option.bind_eq_some_iff.mp H
  obtain ⟨t180, A30, H⟩ := H
  replace H : ((cmp_isNaN_int.f a1).bind fun t181 => (if t180 = true then (if t181 = true then (some 0) else (some (-1))) else (if t181 = true then (some 1) else (if a0 < a1 then (some (-1)) else (if a0 > a1 then (some 1) else (some 0)))))) = some r := H
  have A3 := Aside0.mk A30
  clear A30
  replace H := Option.bind_eq_some_iff.mp H
  obtain ⟨t181, A40, H⟩ := H
  replace H : (if t180 = true then (if t181 = true then (some 0) else (some (-1))) else (if t181 = true then (some 1) else (if a0 < a1 then (some (-1)) else (if a0 > a1 then (some 1) else (some 0))))) = some r := H
  have A4 := Aside0.mk A40
  clear A40
  by_cases c5 : t180 = true
  · subst c5
    have H1 : (if t181 = true then (some 0) else (some (-1))) = some r := by rw [if_pos rfl] at H; exact H
    clear H
    have H := H1
    clear H1
    by_cases c6 : t181 = true
    · subst c6
      have H1 : (some 0) = some r := by rw [if_pos rfl] at H; exact H
      clear H
      have H := H1
      clear H1
      obtain rfl := Option.some.inj H
      go_enter Tryz.func98, Tryz.ntmps98
      go_wp2_with (first | ((with_reducible refine gate_callee (f := 118) rfl ?_); refine goesL_ (some 8) rfl rfl Tryz.func118 (by kernel_rfl) rfl #[.int .i64 a0] rfl (by (try simp only [List.map_toArray, List.map_cons, List.map_nil]); first | done | rfl | (simp only [List.length_drop, List.length_take]; rfl)) ?_; (with_reducible refine (cmp_isNaN_int.calls a0 true _ A3.out).mono ?_); rintro e w' ⟨rfl, ⟨nd, rfl⟩⟩; refine ⟨_, rfl, ?_⟩) | ((with_reducible refine gate_callee (f := 118) rfl ?_); refine goesL_ (some 10) rfl rfl Tryz.func118 (by kernel_rfl) rfl #[.int .i64 a1] rfl (by (try simp only [List.map_toArray, List.map_cons, List.map_nil]); first | done | rfl | (simp only [List.length_drop, List.length_take]; rfl)) ?_; (with_reducible refine (cmp_isNaN_int.calls a1 true _ A4.out).mono ?_); rintro e w' ⟨rfl, ⟨nd, rfl⟩⟩; refine ⟨_, rfl, ?_⟩))
      go_ret
      exact ⟨by first | rfl | (simp; done) | (simp [*]; done), by repeat (first | exact Drawn0.refl _ | apply Drawn0.step)⟩
    · replace c6 := Bool.eq_false_iff.mpr c6
      subst c6
      have H1 : (some (-1)) = some r := by rw [if_neg (show ¬ (false = true) by decide)] at H; exact H
      clear H
      have H := H1
      clear H1
      obtain rfl := Option.some.inj H
      go_enter Tryz.func98, Tryz.ntmps98
      go_wp2_with (first | ((with_reducible refine gate_callee (f := 118) rfl ?_); refine goesL_ (some 8) rfl rfl Tryz.func118 (by kernel_rfl) rfl #[.int .i64 a0] rfl (by (try simp only [List.map_toArray, List.map_cons, List.map_nil]); first | done | rfl | (simp only [List.length_drop, List.length_take]; rfl)) ?_; (with_reducible refine (cmp_isNaN_int.calls a0 true _ A3.out).mono ?_); rintro e w' ⟨rfl, ⟨nd, rfl⟩⟩; refine ⟨_, rfl, ?_⟩) | ((with_reducible refine gate_callee (f := 118) rfl ?_); refine goesL_ (some 10) rfl rfl Tryz.func118 (by kernel_rfl) rfl #[.int .i64 a1] rfl (by (try simp only [List.map_toArray, List.map_cons, List.map_nil]); first | done | rfl | (simp only [List.length_drop, List.length_take]; rfl)) ?_; (with_reducible refine (cmp_isNaN_int.calls a1 false _ A4.out).mono ?_); rintro e w' ⟨rfl, ⟨nd, rfl⟩⟩; refine ⟨_, rfl, ?_⟩))
      go_ret
      exact ⟨by first | rfl | (simp; done) | (simp [*]; done), by repeat (first | exact Drawn0.refl _ | apply Drawn0.step)⟩
  · replace c5 := Bool.eq_false_iff.mpr c5
    subst c5
    have H1 : (if t181 = true then (some 1) else (if a0 < a1 then (some (-1)) else (if a0 > a1 then (some 1) else (some 0)))) = some r := by rw [if_neg (show ¬ (false = true) by decide)] at H; exact H
    clear H
    have H := H1
    clear H1
    by_cases c7 : t181 = true
    · subst c7
      have H1 : (some 1) = some r := by rw [if_pos rfl] at H; exact H
      clear H
      have H := H1
      clear H1
      obtain rfl := Option.some.inj H
      go_enter Tryz.func98, Tryz.ntmps98
      go_wp2_with (first | ((with_reducible refine gate_callee (f := 118) rfl ?_); refine goesL_ (some 8) rfl rfl Tryz.func118 (by kernel_rfl) rfl #[.int .i64 a0] rfl (by (try simp only [List.map_toArray, List.map_cons, List.map_nil]); first | done | rfl | (simp only [List.length_drop, List.length_take]; rfl)) ?_; (with_reducible refine (cmp_isNaN_int.calls a0 false _ A3.out).mono ?_); rintro e w' ⟨rfl, ⟨nd, rfl⟩⟩; refine ⟨_, rfl, ?_⟩) | ((with_reducible refine gate_callee (f := 118) rfl ?_); refine goesL_ (some 10) rfl rfl Tryz.func118 (by kernel_rfl) rfl #[.int .i64 a1] rfl (by (try simp only [List.map_toArray, List.map_cons, List.map_nil]); first | done | rfl | (simp only [List.length_drop, List.length_take]; rfl)) ?_; (with_reducible refine (cmp_isNaN_int.calls a1 true _ A4.out).mono ?_); rintro e w' ⟨rfl, ⟨nd, rfl⟩⟩; refine ⟨_, rfl, ?_⟩))
      go_ret
      exact ⟨by first | rfl | (simp; done) | (simp [*]; done), by repeat (first | exact Drawn0.refl _ | apply Drawn0.step)⟩
    · replace c7 := Bool.eq_false_iff.mpr c7
      subst c7
      have H1 : (if a0 < a1 then (some (-1)) else (if a0 > a1 then (some 1) else (some 0))) = some r := by rw [if_neg (show ¬ (false = true) by decide)] at H; exact H
      clear H
      have H := H1
      clear H1
      by_cases c8 : a0 < a1
      · rw [if_pos c8] at H
        have c8b0 : decide (a0 < a1) = true := decide_eq_true c8
        clear c8
        obtain rfl := Option.some.inj H
        go_enter Tryz.func98, Tryz.ntmps98
        go_wp2_with (first | ((with_reducible refine gate_callee (f := 118) rfl ?_); refine goesL_ (some 8) rfl rfl Tryz.func118 (by kernel_rfl) rfl #[.int .i64 a0] rfl (by (try simp only [List.map_toArray, List.map_cons, List.map_nil]); first | done | rfl | (simp only [List.length_drop, List.length_take]; rfl)) ?_; (with_reducible refine (cmp_isNaN_int.calls a0 false _ A3.out).mono ?_); rintro e w' ⟨rfl, ⟨nd, rfl⟩⟩; refine ⟨_, rfl, ?_⟩) | ((with_reducible refine gate_callee (f := 118) rfl ?_); refine goesL_ (some 10) rfl rfl Tryz.func118 (by kernel_rfl) rfl #[.int .i64 a1] rfl (by (try simp only [List.map_toArray, List.map_cons, List.map_nil]); first | done | rfl | (simp only [List.length_drop, List.length_take]; rfl)) ?_; (with_reducible refine (cmp_isNaN_int.calls a1 false _ A4.out).mono ?_); rintro e w' ⟨rfl, ⟨nd, rfl⟩⟩; refine ⟨_, rfl, ?_⟩))
        go_ret
        exact ⟨by first | rfl | (simp; done) | (simp [*]; done), by repeat (first | exact Drawn0.refl _ | apply Drawn0.step)⟩
      · rw [if_neg c8] at H
        have c8b0 : decide (a0 < a1) = false := decide_eq_false c8
        clear c8
        by_cases c9 : a0 > a1
        · rw [if_pos c9] at H
          have c9b0 : decide (a1 < a0) = true := decide_eq_true c9
          clear c9
          obtain rfl := Option.some.inj H
          go_enter Tryz.func98, Tryz.ntmps98
          go_wp2_with (first | ((with_reducible refine gate_callee (f := 118) rfl ?_); refine goesL_ (some 8) rfl rfl Tryz.func118 (by kernel_rfl) rfl #[.int .i64 a0] rfl (by (try simp only [List.map_toArray, List.map_cons, List.map_nil]); first | done | rfl | (simp only [List.length_drop, List.length_take]; rfl)) ?_; (with_reducible refine (cmp_isNaN_int.calls a0 false _ A3.out).mono ?_); rintro e w' ⟨rfl, ⟨nd, rfl⟩⟩; refine ⟨_, rfl, ?_⟩) | ((with_reducible refine gate_callee (f := 118) rfl ?_); refine goesL_ (some 10) rfl rfl Tryz.func118 (by kernel_rfl) rfl #[.int .i64 a1] rfl (by (try simp only [List.map_toArray, List.map_cons, List.map_nil]); first | done | rfl | (simp only [List.length_drop, List.length_take]; rfl)) ?_; (with_reducible refine (cmp_isNaN_int.calls a1 false _ A4.out).mono ?_); rintro e w' ⟨rfl, ⟨nd, rfl⟩⟩; refine ⟨_, rfl, ?_⟩))
          go_ret
          exact ⟨by first | rfl | (simp; done) | (simp [*]; done), by repeat (first | exact Drawn0.refl _ | apply Drawn0.step)⟩
        · rw [if_neg c9] at H
          have c9b0 : decide (a1 < a0) = false := decide_eq_false c9
          clear c9
          obtain rfl := Option.some.inj H
          go_enter Tryz.func98, Tryz.ntmps98
          go_wp2_with (first | ((with_reducible refine gate_callee (f := 118) rfl ?_); refine goesL_ (some 8) rfl rfl Tryz.func118 (by kernel_rfl) rfl #[.int .i64 a0] rfl (by (try simp only [List.map_toArray, List.map_cons, List.map_nil]); first | done | rfl | (simp only [List.length_drop, List.length_take]; rfl)) ?_; (with_reducible refine (cmp_isNaN_int.calls a0 false _ A3.out).mono ?_); rintro e w' ⟨rfl, ⟨nd, rfl⟩⟩; refine ⟨_, rfl, ?_⟩) | ((with_reducible refine gate_callee (f := 118) rfl ?_); refine goesL_ (some 10) rfl rfl Tryz.func118 (by kernel_rfl) rfl #[.int .i64 a1] rfl (by (try simp only [List.map_toArray, List.map_cons, List.map_nil]); first | done | rfl | (simp only [List.length_drop, List.length_take]; rfl)) ?_; (with_reducible refine (cmp_isNaN_int.calls a1 false _ A4.out).mono ?_); rintro e w' ⟨rfl, ⟨nd, rfl⟩⟩; refine ⟨_, rfl, ?_⟩))
          go_ret
          exact ⟨by first | rfl | (simp; done) | (simp [*]; done), by repeat (first | exact Drawn0.refl _ | apply Drawn0.step)⟩
def api_Code_119.f (a0 : Int) : Option (Bool) := some (a0 != a0)
set_option maxHeartbeats 8000000 in
set_option maxRecDepth 100000 in
theorem api_Code_119.calls (a0 : Int) (r : Bool) (w : World) (h : api_Code_119.f a0 = some r) :
    Calls Tryz.prog 119 #[.int .i64 a0] w fun e w' => e = .returned (.bool r) ∧ Drawn0 w w' := by
  have H : (some (a0 != a0)) = some r := h
  clear h
  obtain rfl := Option.some.inj H
  go_enter Tryz.func119, Tryz.ntmps119
  go_wp2
  go_ret
  exact ⟨by first | rfl | (simp; done) | (simp [*]; done), by repeat (first | exact Drawn0.refl _ | apply Drawn0.step)⟩
def api_Code_99.f (a0 : Int) (a1 : Int) : Option (Int) := (api_Code_119.f a0).bind fun t182 => ((api_Code_119.f a1).bind fun t183 => (if t182 = true then (if t183 = true then (some 0) else (some (-1))) else (if t183 = true then (some 1) else (if a0 < a1 then (some (-1)) else (if a0 > a1 then (some 1) else (some 0))))))
set_option maxHeartbeats 8000000 in
set_option maxRecDepth 100000 in
theorem api_Code_99.calls (a0 : Int) (a1 : Int) (r : Int) (w : World) (h : api_Code_99.f a0 a1 = some r) :
    Calls Tryz.prog 99 #[.int .i64 a0, .int .i64 a1] w fun e w' => e = .returned (.int .i64 r) ∧ Drawn0 w w' := by
  have H : ((api_Code_119.f a0).bind fun t182 => ((api_Code_119.f a1).bind fun t183 => (if t182 = true then (if t183 = true then (some 0) else (some (-1))) else (if t183 = true then (some 1) else (if a0 < a1 then (some (-1)) else (if a0 > a1 then (some 1) else (some 0))))))) = some r := h
  clear h
  replace H := Option.bind_eq_some_iff.mp H
  obtain ⟨t182, A30, H⟩ := H
  replace H : ((api_Code_119.f a1).bind fun t183 => (if t182 = true then (if t183 = true then (some 0) else (some (-1))) else (if t183 = true then (some 1) else (if a0 < a1 then (some (-1)) else (if a0 > a1 then (some 1) else (some 0)))))) = some r := H
  have A3 := Aside0.mk A30
  clear A30
  replace H := Option.bind_eq_some_iff.mp H
  obtain ⟨t183, A40, H⟩ := H
  replace H : (if t182 = true then (if t183 = true then (some 0) else (some (-1))) else (if t183 = true then (some 1) else (if a0 < a1 then (some (-1)) else (if a0 > a1 then (some 1) else (some 0))))) = some r := H
  have A4 := Aside0.mk A40
  clear A40
  by_cases c5 : t182 = true
  · subst c5
    have H1 : (if t183 = true then (some 0) else (some (-1))) = some r := by rw [if_pos rfl] at H; exact H
    clear H
    have H := H1
    clear H1
    by_cases c6 : t183 = true
    · subst c6
      have H1 : (some 0) = some r := by rw [if_pos rfl] at H; exact H
      clear H
      have H := H1
      clear H1
      obtain rfl := Option.some.inj H
      go_enter Tryz.func99, Tryz.ntmps99
      go_wp2_with (first | ((with_reducible refine gate_callee (f := 119) rfl ?_); refine goesL_ (some 8) rfl rfl Tryz.func119 (by kernel_rfl) rfl #[.int .i64 a0] rfl (by (try simp only [List.map_toArray, List.map_cons, List.map_nil]); first | done | rfl | (simp only [List.length_drop, List.length_take]; rfl)) ?_; (with_reducible refine (api_Code_119.calls a0 true _ A3.out).mono ?_); rintro e w' ⟨rfl, ⟨nd, rfl⟩⟩; refine ⟨_, rfl, ?_⟩) | ((with_reducible refine gate_callee (f := 119) rfl ?_); refine goesL_ (some 10) rfl rfl Tryz.func119 (by kernel_rfl) rfl #[.int .i64 a1] rfl (by (try simp only [List.map_toArray, List.map_cons, List.map_nil]); first | done | rfl | (simp only [List.length_drop, List.length_take]; rfl)) ?_; (with_reducible refine (api_Code_119.calls a1 true _ A4.out).mono ?_); rintro e w' ⟨rfl, ⟨nd, rfl⟩⟩; refine ⟨_, rfl, ?_⟩))
      go_ret
      exact ⟨by first | rfl | (simp; done) | (simp [*]; done), by repeat (first | exact Drawn0.refl _ | apply Drawn0.step)⟩
    · replace c6 := Bool.eq_false_iff.mpr c6
      subst c6
      have H1 : (some (-1)) = some r := by rw [if_neg (show ¬ (false = true) by decide)] at H; exact H
      clear H
      have H := H1
      clear H1
      obtain rfl := Option.some.inj H
      go_enter Tryz.func99, Tryz.ntmps99
      go_wp2_with (first | ((with_reducible refine gate_callee (f := 119) rfl ?_); refine goesL_ (some 8) rfl rfl Tryz.func119 (by kernel_rfl) rfl #[.int .i64 a0] rfl (by (try simp only [List.map_toArray, List.map_cons, List.map_nil]); first | done | rfl | (simp only [List.length_drop, List.length_take]; rfl)) ?_; (with_reducible refine (api_Code_119.calls a0 true _ A3.out).mono ?_); rintro e w' ⟨rfl, ⟨nd, rfl⟩⟩; refine ⟨_, rfl, ?_⟩) | ((with_reducible refine gate_callee (f := 119) rfl ?_); refine goesL_ (some 10) rfl rfl Tryz.func119 (by kernel_rfl) rfl #[.int .i64 a1] rfl (by (try simp only [List.map_toArray, List.map_cons, List.map_nil]); first | done | rfl | (simp only [List.length_drop, List.length_take]; rfl)) ?_; (with_reducible refine (api_Code_119.calls a1 false _ A4.out).mono ?_); rintro e w' ⟨rfl, ⟨nd, rfl⟩⟩; refine ⟨_, rfl, ?_⟩))
      go_ret
      exact ⟨by first | rfl | (simp; done) | (simp [*]; done), by repeat (first | exact Drawn0.refl _ | apply Drawn0.step)⟩
  · replace c5 := Bool.eq_false_iff.mpr c5
    subst c5
    have H1 : (if t183 = true then (some 1) else (if a0 < a1 then (some (-1)) else (if a0 > a1 then (some 1) else (some 0)))) = some r := by rw [if_neg (show ¬ (false = true) by decide)] at H; exact H
    clear H
    have H := H1
    clear H1
    by_cases c7 : t183 = true
    · subst c7
      have H1 : (some 1) = some r := by rw [if_pos rfl] at H; exact H
      clear H
      have H := H1
      clear H1
      obtain rfl := Option.some.inj H
      go_enter Tryz.func99, Tryz.ntmps99
      go_wp2_with (first | ((with_reducible refine gate_callee (f := 119) rfl ?_); refine goesL_ (some 8) rfl rfl Tryz.func119 (by kernel_rfl) rfl #[.int .i64 a0] rfl (by (try simp only [List.map_toArray, List.map_cons, List.map_nil]); first | done | rfl | (simp only [List.length_drop, List.length_take]; rfl)) ?_; (with_reducible refine (api_Code_119.calls a0 false _ A3.out).mono ?_); rintro e w' ⟨rfl, ⟨nd, rfl⟩⟩; refine ⟨_, rfl, ?_⟩) | ((with_reducible refine gate_callee (f := 119) rfl ?_); refine goesL_ (some 10) rfl rfl Tryz.func119 (by kernel_rfl) rfl #[.int .i64 a1] rfl (by (try simp only [List.map_toArray, List.map_cons, List.map_nil]); first | done | rfl | (simp only [List.length_drop, List.length_take]; rfl)) ?_; (with_reducible refine (api_Code_119.calls a1 true _ A4.out).mono ?_); rintro e w' ⟨rfl, ⟨nd, rfl⟩⟩; refine ⟨_, rfl, ?_⟩))
      go_ret
      exact ⟨by first | rfl | (simp; done) | (simp [*]; done), by repeat (first | exact Drawn0.refl _ | apply Drawn0.step)⟩
    · replace c7 := Bool.eq_false_iff.mpr c7
      subst c7
      have H1 : (if a0 < a1 then (some (-1)) else (if a0 > a1 then (some 1) else (some 0))) = some r := by rw [if_neg (show ¬ (false = true) by decide)] at H; exact H
      clear H
      have H := H1
      clear H1
      by_cases c8 : a0 < a1
      · rw [if_pos c8] at H
        have c8b0 : decide (a0 < a1) = true := decide_eq_true c8
        clear c8
        obtain rfl := Option.some.inj H
        go_enter Tryz.func99, Tryz.ntmps99
        go_wp2_with (first | ((with_reducible refine gate_callee (f := 119) rfl ?_); refine goesL_ (some 8) rfl rfl Tryz.func119 (by kernel_rfl) rfl #[.int .i64 a0] rfl (by (try simp only [List.map_toArray, List.map_cons, List.map_nil]); first | done | rfl | (simp only [List.length_drop, List.length_take]; rfl)) ?_; (with_reducible refine (api_Code_119.calls a0 false _ A3.out).mono ?_); rintro e w' ⟨rfl, ⟨nd, rfl⟩⟩; refine ⟨_, rfl, ?_⟩) | ((with_reducible refine gate_callee (f := 119) rfl ?_); refine goesL_ (some 10) rfl rfl Tryz.func119 (by kernel_rfl) rfl #[.int .i64 a1] rfl (by (try simp only [List.map_toArray, List.map_cons, List.map_nil]); first | done | rfl | (simp only [List.length_drop, List.length_take]; rfl)) ?_; (with_reducible refine (api_Code_119.calls a1 false _ A4.out).mono ?_); rintro e w' ⟨rfl, ⟨nd, rfl⟩⟩; refine ⟨_, rfl, ?_⟩))
        go_ret
        exact ⟨by first | rfl | (simp; done) | (simp [*]; done), by repeat (first | exact Drawn0.refl _ | apply Drawn0.step)⟩
      · rw [if_neg c8] at H
        have c8b0 : decide (a0 < a1) = false := decide_eq_false c8
        clear c8
        by_cases c9 : a0 > a1
        · rw [if_pos c9] at H
          have c9b0 : decide (a1 < a0) = true := decide_eq_true c9
          clear c9
          obtain rfl := Option.some.inj H
          go_enter Tryz.func99, Tryz.ntmps99
          go_wp2_with (first | ((with_reducible refine gate_callee (f := 119) rfl ?_); refine goesL_ (some 8) rfl rfl Tryz.func119 (by kernel_rfl) rfl #[.int .i64 a0] rfl (by (try simp only [List.map_toArray, List.map_cons, List.map_nil]); first | done | rfl | (simp only [List.length_drop, List.length_take]; rfl)) ?_; (with_reducible refine (api_Code_119.calls a0 false _ A3.out).mono ?_); rintro e w' ⟨rfl, ⟨nd, rfl⟩⟩; refine ⟨_, rfl, ?_⟩) | ((with_reducible refine gate_callee (f := 119) rfl ?_); refine goesL_ (some 10) rfl rfl Tryz.func119 (by kernel_rfl) rfl #[.int .i64 a1] rfl (by (try simp only [List.map_toArray, List.map_cons, List.map_nil]); first | done | rfl | (simp only [List.length_drop, List.length_take]; rfl)) ?_; (with_reducible refine (api_Code_119.calls a1 false _ A4.out).mono ?_); rintro e w' ⟨rfl, ⟨nd, rfl⟩⟩; refine ⟨_, rfl, ?_⟩))
          go_ret
          exact ⟨by first | rfl | (simp; done) | (simp [*]; done), by repeat (first | exact Drawn0.refl _ | apply Drawn0.step)⟩
        · rw [if_neg c9] at H
          have c9b0 : decide (a1 < a0) = false := decide_eq_false c9
          clear c9
          obtain rfl := Option.some.inj H
          go_enter Tryz.func99, Tryz.ntmps99
          go_wp2_with (first | ((with_reducible refine gate_callee (f := 119) rfl ?_); refine goesL_ (some 8) rfl rfl Tryz.func119 (by kernel_rfl) rfl #[.int .i64 a0] rfl (by (try simp only [List.map_toArray, List.map_cons, List.map_nil]); first | done | rfl | (simp only [List.length_drop, List.length_take]; rfl)) ?_; (with_reducible refine (api_Code_119.calls a0 false _ A3.out).mono ?_); rintro e w' ⟨rfl, ⟨nd, rfl⟩⟩; refine ⟨_, rfl, ?_⟩) | ((with_reducible refine gate_callee (f := 119) rfl ?_); refine goesL_ (some 10) rfl rfl Tryz.func119 (by kernel_rfl) rfl #[.int .i64 a1] rfl (by (try simp only [List.map_toArray, List.map_cons, List.map_nil]); first | done | rfl | (simp only [List.length_drop, List.length_take]; rfl)) ?_; (with_reducible refine (api_Code_119.calls a1 false _ A4.out).mono ?_); rintro e w' ⟨rfl, ⟨nd, rfl⟩⟩; refine ⟨_, rfl, ?_⟩))
          go_ret
          exact ⟨by first | rfl | (simp; done) | (simp [*]; done), by repeat (first | exact Drawn0.refl _ | apply Drawn0.step)⟩
end Go.Proofs.YtomdidopflebjaaGreatDoor.PM
namespace Go.Proofs.YtomdidopflebjaaGreatDoor.PM
open Go.RowKit Go.Proofs.YtomdidopflebjaaGreatDoorW.PrintWords Go.Proofs.YtomdidopflebjaaGreatDoorW.PrintLast Go.Proofs.YtomdidopflebjaaGreatDoorW.PrintMore
def strings_Compare.f (a0 a1 : ByteArray) : Option Int := some (Lib.compareBytes a0.data.toList a1.data.toList)
theorem strings_Compare.calls (a0 a1 : ByteArray) (r : Int) (w : World) (h : strings_Compare.f a0 a1 = some r) :
    Calls Tryz.prog 100 #[.string a0, .string a1] w fun e w' => e = .returned (.int .i64 r) ∧ Drawn0 w w' := by
  obtain rfl := Option.some.inj h
  exact (Tryz.strings_Compare a0 a1 w).mono fun e w' ⟨he, hw⟩ => ⟨he, hw ▸ Drawn0.refl w⟩
end Go.Proofs.YtomdidopflebjaaGreatDoor.PM
namespace Go.Proofs.YtomdidopflebjaaGreatDoor.PM
open Go.RowKit Go.Proofs.YtomdidopflebjaaGreatDoorW.PrintWords Go.Proofs.YtomdidopflebjaaGreatDoorW.PrintLast Go.Proofs.YtomdidopflebjaaGreatDoorW.PrintMore
attribute [local go_sem] max2_int min2_int max_two min_two max_three min_three max_four min_four   -- for this text's walks alone
set_option linter.unusedVariables false
set_option linter.unusedSimpArgs false
def merge_compare.f (k : Nat) (a0_0 : Int) (a0_1 : Int) (a0_2 : ByteArray) (a1_0 : Int) (a1_1 : Int) (a1_2 : ByteArray) : Option (Int) := (cmp_Compare_int.f a0_1 a1_1).bind fun t186 => ((api_Code_99.f a0_0 a1_0).bind fun t187 => ((strings_Compare.f a0_2 a1_2).bind fun t188 => ((cmp_Or_int.f k (([t186, t187, t188] : List Int))).bind fun t192 => (some t192))))
def merge_compare.T1 : Bool × List (List Nat × List Nat) := (true, [([], []), ([0], [0]), ([], []), ([2], [2]), ([1, 3], [1, 3]), ([], []), ([5], [5]), ([], []), ([7], [7]), ([6, 8, 4], [6, 8]), ([], []), ([10], [10]), ([], []), ([12], [12]), ([11, 13, 9], [11, 13]), ([4, 9, 14], [4, 9, 14]), ([15, 14], [15]), ([16, 16, 0, 1, 2, 3, 4, 5, 6, 7, 8, 9, 10, 11, 12, 13, 14, 15, 16], [16])])
def merge_compare.B1 : List Nat := [0, 1, 0, 4, 15, 0, 32, 0, 128, 511, 0, 1024, 0, 4096, 16383, 32767, 65535, 131071]
theorem merge_compare.tab1 : rtab .any (opsOf Tryz.f79 1) = merge_compare.T1 := by kernel_rfl
theorem merge_compare.bits1 : waitsOk merge_compare.T1.2 merge_compare.B1 = true := by kernel_rfl
end Go.Proofs.YtomdidopflebjaaGreatDoor.PM
namespace Go.Proofs.YtomdidopflebjaaGreatDoor.PM
open Go.RowKit Go.Proofs.YtomdidopflebjaaGreatDoorW.PrintWords Go.Proofs.YtomdidopflebjaaGreatDoorW.PrintLast Go.Proofs.YtomdidopflebjaaGreatDoorW.PrintMore
attribute [local go_sem] max2_int min2_int max_two min_two max_three min_three max_four min_four
set_option linter.unusedVariables false
set_option linter.unusedSimpArgs false
section
variable {P : Program} {ops : Array Oper} {rest : List Oper} {o : Oper} {a : Act} {Q : Exit → Act → World → Prop} {Kc : Act → World → Prop}
theorem box_event2 {W : World} (hgd : o.guard = none) {N : Tmp} (_hd : o.dst = some N) {cs : Array Value} {t : TypeId}
    (hrun : (execOp a.eval o).run P W = .ok (.value (.pointer (some ⟨W.heap.size, 0, none⟩))) (W.alloc (.cells cs t (0, 0))))
    (h : ∀ g, g = W.heap.size → ∀ w1, w1.heap[g]? = some (.cells cs t (0, 0)) → Below W.heap.size W w1 → W.drawn ≤ w1.drawn → wpList P ops Q rest (a.put o.dst (.pointer (some ⟨g, 0, none⟩))) w1) : wpList P ops Q (o :: rest) a W :=
  Kd.event_run hgd hrun (h _ rfl _ (blk_new W _) (below_alloc (Below.refl _ _) _) (Nat.le_refl _))
variable {α : Type}
theorem R_lit_step2 (d : Kd α) {w0 W : World} (base e : Nat) (hw : Region.wanted o (yielded ops a.tmps) = true) {N : Tmp} (_hd : o.dst = some N) {xs : List α} {inner : List Value} {ok okp : Nat → Prop}
    (hrun : (execOp a.eval o).run P W = .ok (.value (.slice (some ⟨W.heap.size, 0, none⟩) xs.length xs.length)) (W.alloc (.cells inner.toArray e)))
    (hrep : Reps (d.M W base okp) d.sz xs inner) (hok : ∀ k, okp k → ok k) (hfresh : ok W.heap.size) (HB : Below base w0 W) (hbase : base ≤ W.heap.size) (hm : xs.length ≤ 9223372036854775807)
    (h : ∀ v1 w1, d.R e w1 base ok v1 xs → Below base w0 w1 → W.grownBy w1 none → (∃ b, v1.ownBlock = some b ∧ W.heap.size ≤ b) → W.drawn ≤ w1.drawn → Kc (a.put o.dst v1) w1) : if Region.wanted o (yielded ops a.tmps) = true then Oper.wp P o a W Kc Q else Kc (a.put o.dst undef) W := by
  refine event_step hw hrun (h _ _ ⟨fun k hk => ?_, inner, ?_, ?_⟩ (HB.alloc hbase _) (World.grownBy_alloc W _ none) ⟨W.heap.size, by simp [Value.ownBlock], Nat.le_refl _⟩ (Nat.le_refl _))
  · have : W.heap.size = k := by simpa [Value.ownBlock] using hk
    subst this
    exact hfresh
  · have h2 := World.ownsRow_lit (base := base) (e := e) (size := d.sz) W inner.toArray xs.length hbase (by simpa [maxLen] using hm) (by simpa using hrep.1)
    simpa using h2
  · refine hrep.imp_ (fun p c hp => d.M_mono (fun k hk => ⟨hok k hk.1, fun he => ?_⟩) (Kd.M_below (d.M_bound hp) (below_alloc (Below.refl _ _) _)))
    have h3 : k = W.heap.size := by simpa [Value.ownBlock] using he
    have := hk.2.2.1
    omega
end
set_option maxHeartbeats 8000000 in
set_option maxRecDepth 100000 in
theorem compare_grows (k : Nat) (a0_0 : Int) (a0_1 : Int) (a0_2 : ByteArray) (a1_0 : Int) (a1_1 : Int) (a1_2 : ByteArray) (r : Int) (w : World) (h : merge_compare.f k a0_0 a0_1 a0_2 a1_0 a1_1 a1_2 = some r) :
    Calls Tryz.prog 79 #[.agg #[.int .i64 a0_0, .int .i64 a0_1, .string a0_2], .agg #[.int .i64 a1_0, .int .i64 a1_1, .string a1_2]] w fun e w' => e = .returned (.int .i64 r) ∧ (Below w.heap.size w w' ∧ w.drawn ≤ w'.drawn) := by
  have hu64 := Tryz.underlying64
  have HB := Aside0.mk (Below.refl w.heap.size w)
  have HD := Aside0.mk (Nat.le_refl w.drawn)
  have H : ((cmp_Compare_int.f a0_1 a1_1).bind fun t186 => ((api_Code_99.f a0_0 a1_0).bind fun t187 => ((strings_Compare.f a0_2 a1_2).bind fun t188 => ((cmp_Or_int.f k (([t186, t187, t188] : List Int))).bind fun t192 => (some t192))))) = some r := h
  clear h
  replace H := Option.bind_eq_some_iff.mp H
  obtain ⟨t186, A30, H⟩ := H
  replace H : ((api_Code_99.f a0_0 a1_0).bind fun t187 => ((strings_Compare.f a0_2 a1_2).bind fun t188 => ((cmp_Or_int.f k (([t186, t187, t188] : List Int))).bind fun t192 => (some t192)))) = some r := H
  have A3 := Aside0.mk A30
  clear A30
  replace H := Option.bind_eq_some_iff.mp H
  obtain ⟨t187, A40, H⟩ := H
  replace H : ((strings_Compare.f a0_2 a1_2).bind fun t188 => ((cmp_Or_int.f k (([t186, t187, t188] : List Int))).bind fun t192 => (some t192))) = some r := H
  have A4 := Aside0.mk A40
  clear A40
  replace H := Option.bind_eq_some_iff.mp H
  obtain ⟨t188, A50, H⟩ := H
  replace H : ((cmp_Or_int.f k (([t186, t187, t188] : List Int))).bind fun t192 => (some t192)) = some r := H
  have A5 := Aside0.mk A50
  clear A50
  obtain ⟨y189, hy189⟩ : ∃ y_ : List Int, y_ = (([t186, t187, t188] : List Int)) := ⟨_, rfl⟩
  replace H : ((cmp_Or_int.f k y189).bind fun t192 => (some t192)) = some r := by first | (rw [hy189]; with_reducible exact H) | (have H2_ := (Option.bind_some _ _).symm.trans H; rw [hy189]; with_reducible exact H2_) | (have H2_ := (Option.bind_some _ _).symm.trans H; with_reducible exact H2_) | with_reducible exact H | (rw [hy189]; exact H) | exact H
  have Ny189 := Aside0.mk hy189
  clear hy189
  replace H := Option.bind_eq_some_iff.mp H
  obtain ⟨t192, A60, H⟩ := H
  replace H : (some t192) = some r := H
  have A6 := Aside0.mk A60
  clear A60
  obtain rfl := Option.some.inj H
  go_enter Tryz.func79, Tryz.ntmps79
  try go_wp2_with (first | ((with_reducible refine gate_dst (N := 2) rfl ?_); refine box_event2 ?hg (N := 2) ?hd (cs := #[.int .i64 a0_0, .int .i64 a0_1, .string a0_2]) (t := 64) ?hr ?_; (case hd => rfl); (case hg => rfl); (case hr => first | (go_simp; done) | (go_simp; rfl)); intro gb184 hg w7 hbox hb hd_; have nd_ := Aside0.mk (Nat.le_trans HD.out hd_); clear HD hd_; have HD := nd_; clear nd_; have n0_ := Aside0.mk (below_step (by repeat (first | (with_reducible first | exact HB.out | apply below_alloc | apply pw_below_drewN | apply below_drew1) | exact HB.out)) hb); have n1_ := Aside0.mk (hbox); have n2_ := Aside0.mk ((by rw [hg]; exact (below_size (by repeat (first | (with_reducible first | exact HB.out | apply below_alloc | apply pw_below_drewN | apply below_drew1) | exact HB.out))) : w.heap.size ≤ gb184)); have n3_ := Aside0.mk ((by rw [hg]; exact (below_size (by repeat (first | (with_reducible first | exact HB.out | apply below_alloc | apply pw_below_drewN | apply below_drew1) | exact HB.out))) : w.heap.size ≤ gb184)); clear HB; have HB := n0_; have BK184 := n1_; have GW184 := n2_; have GE184 := n3_; clear n0_ n1_ n2_ n3_; clear hb hbox hg) | ((with_reducible refine gate_dst (N := 3) rfl ?_); refine box_event2 ?hg (N := 3) ?hd (cs := #[.int .i64 a1_0, .int .i64 a1_1, .string a1_2]) (t := 64) ?hr ?_; (case hd => rfl); (case hg => rfl); (case hr => first | (go_simp; done) | (go_simp; rfl)); intro gb185 hg w8 hbox hb hd_; have nd_ := Aside0.mk (Nat.le_trans HD.out hd_); clear HD hd_; have HD := nd_; clear nd_; have n0_ := Aside0.mk (blk_below (g := gb184) (o := .cells #[.int .i64 a0_0, .int .i64 a0_1, .string a0_2] 64 (0, 0)) (by (with_reducible repeat (first | refine blk_drewN ?_ _ | refine blk_drew ?_ | refine blk_alloc ?_ _)); exact BK184.out) hb); have n1_ := Aside0.mk (below_step (by repeat (first | (with_reducible first | exact HB.out | apply below_alloc | apply pw_below_drewN | apply below_drew1 | refine below_set ?_ GE184.out) | exact HB.out)) hb); have n2_ := Aside0.mk (hbox); have n3_ := Aside0.mk ((by rw [hg]; exact (below_size (by repeat (first | (with_reducible first | exact HB.out | apply below_alloc | apply pw_below_drewN | apply below_drew1 | refine below_set ?_ GE184.out) | exact HB.out))) : w.heap.size ≤ gb185)); have n4_ := Aside0.mk ((by rw [hg]; exact (below_size (by repeat (first | (with_reducible first | exact HB.out | apply below_alloc | apply pw_below_drewN | apply below_drew1 | refine below_set ?_ GE184.out) | exact HB.out))) : w.heap.size ≤ gb185)); have n5_ := Aside0.mk ((by rw [hg]; exact Nat.ne_of_lt (blk_lt (g := gb184) (o := .cells #[.int .i64 a0_0, .int .i64 a0_1, .string a0_2] 64 (0, 0)) (by (with_reducible repeat (first | refine blk_drewN ?_ _ | refine blk_drew ?_ | refine blk_alloc ?_ _)); exact BK184.out)) : gb184 ≠ gb185)); have n6_ := Aside0.mk ((by rw [hg]; exact Nat.ne_of_gt (blk_lt (g := gb184) (o := .cells #[.int .i64 a0_0, .int .i64 a0_1, .string a0_2] 64 (0, 0)) (by (with_reducible repeat (first | refine blk_drewN ?_ _ | refine blk_drew ?_ | refine blk_alloc ?_ _)); exact BK184.out)) : gb185 ≠ gb184)); clear BK184; clear HB; have BK184 := n0_; have HB := n1_; have BK185 := n2_; have GW185 := n3_; have GE185 := n4_; have NB184_185 := n5_; have NB185_184 := n6_; clear n0_ n1_ n2_ n3_ n4_ n5_ n6_; clear hb hbox hg))
  have n0_ := Aside0.mk (blk_drew BK184.out)
  have n1_ := Aside0.mk (blk_drew BK185.out)
  have n2_ := Aside0.mk (below_drew1 HB.out)
  clear BK184
  clear BK185
  clear HB
  have BK184 := n0_
  have BK185 := n1_
  have HB := n2_
  clear n0_ n1_ n2_
  refine start_ (n := 18) (S := fun w' => w'.cell? ⟨gb184, 0, none⟩ = some (.int .i64 a0_0) ∧ w'.cell? ⟨gb184, 1, none⟩ = some (.int .i64 a0_1) ∧ w'.cell? ⟨gb184, 2, none⟩ = some (.string a0_2) ∧ w'.cell? ⟨gb185, 0, none⟩ = some (.int .i64 a1_0) ∧ w'.cell? ⟨gb185, 1, none⟩ = some (.int .i64 a1_1) ∧ w'.cell? ⟨gb185, 2, none⟩ = some (.string a1_2)) (ds := []) #[false, false, false, false, false, false, false, false, false, false, false, false, false, false, false, false, false, false] (by kernel_rfl) rfl rfl ⟨(blk_cell BK184.out 0).trans rfl, (blk_cell BK184.out 1).trans rfl, (blk_cell BK184.out 2).trans rfl, (blk_cell BK185.out 0).trans rfl, (blk_cell BK185.out 1).trans rfl, (blk_cell BK185.out 2).trans rfl⟩ (fun hHeld => ?_); refine with_tabW merge_compare.tab1 merge_compare.bits1 (fun HT_ HW_ => ?_)
  have nd_ := Aside0.mk (show w.drawn ≤ w8.drew.drawn from Nat.le_trans HD.out (Nat.le_succ _))
  clear HD
  have HD := nd_
  clear nd_
  generalize w8.drew = w9 at BK184 BK185 HB HD hHeld ⊢
  refine pure_ (i := 0) (N := some 5) (v := ?_) (a' := ?_) #[true, false, false, false, false, false, false, false, false, false, false, false, false, false, false, false, false, false] rfl rfl (any_of HT_.out (by kernel_rfl)) (fun _ _ _ h => h) (Or.inl ⟨by rfl, ?_⟩) ?_ ?_
  rotate_left
  · intro w'
    go_simp
    with_reducible rfl
  rotate_left
  · simp only [Act.put, List.setIfInBounds_toArray, List.set_cons_zero, List.set_cons_succ, i64_w, i32_w]
    rfl
  refine pure_ (i := 2) (N := some 7) (v := ?_) (a' := ?_) #[true, false, true, false, false, false, false, false, false, false, false, false, false, false, false, false, false, false] rfl rfl (any_of HT_.out (by kernel_rfl)) (fun _ _ _ h => h) (Or.inl ⟨by rfl, ?_⟩) ?_ ?_
  rotate_left
  · intro w'
    go_simp
    with_reducible rfl
  rotate_left
  · simp only [Act.put, List.setIfInBounds_toArray, List.set_cons_zero, List.set_cons_succ, i64_w, i32_w]
    rfl
  refine pure_ (i := 5) (N := some 10) (v := ?_) (a' := ?_) #[true, false, true, false, false, true, false, false, false, false, false, false, false, false, false, false, false, false] rfl rfl (any_of HT_.out (by kernel_rfl)) (fun _ _ _ h => h) (Or.inl ⟨by rfl, ?_⟩) ?_ ?_
  rotate_left
  · intro w'
    go_simp
    with_reducible rfl
  rotate_left
  · simp only [Act.put, List.setIfInBounds_toArray, List.set_cons_zero, List.set_cons_succ, i64_w, i32_w]
    rfl
  refine pure_ (i := 7) (N := some 12) (v := ?_) (a' := ?_) #[true, false, true, false, false, true, false, true, false, false, false, false, false, false, false, false, false, false] rfl rfl (any_of HT_.out (by kernel_rfl)) (fun _ _ _ h => h) (Or.inl ⟨by rfl, ?_⟩) ?_ ?_
  rotate_left
  · intro w'
    go_simp
    with_reducible rfl
  rotate_left
  · simp only [Act.put, List.setIfInBounds_toArray, List.set_cons_zero, List.set_cons_succ, i64_w, i32_w]
    rfl
  refine pure_ (i := 10) (N := some 15) (v := ?_) (a' := ?_) #[true, false, true, false, false, true, false, true, false, false, true, false, false, false, false, false, false, false] rfl rfl (any_of HT_.out (by kernel_rfl)) (fun _ _ _ h => h) (Or.inl ⟨by rfl, ?_⟩) ?_ ?_
  rotate_left
  · intro w'
    go_simp
    with_reducible rfl
  rotate_left
  · simp only [Act.put, List.setIfInBounds_toArray, List.set_cons_zero, List.set_cons_succ, i64_w, i32_w]
    rfl
  refine pure_ (i := 12) (N := some 17) (v := ?_) (a' := ?_) #[true, false, true, false, false, true, false, true, false, false, true, false, true, false, false, false, false, false] rfl rfl (any_of HT_.out (by kernel_rfl)) (fun _ _ _ h => h) (Or.inl ⟨by rfl, ?_⟩) ?_ ?_
  rotate_left
  · intro w'
    go_simp
    with_reducible rfl
  rotate_left
  · simp only [Act.put, List.setIfInBounds_toArray, List.set_cons_zero, List.set_cons_succ, i64_w, i32_w]
    rfl
  refine take_ (i := 1) (N := some 6) (v := ?_) (a' := ?_) #[true, true, true, false, false, true, false, true, false, false, true, false, true, false, false, false, false, false] rfl rfl (take_ofW HT_.out HW_.out (by kernel_rfl)) (fun _ _ _ h => h) (Or.inl ⟨by rfl, ?_⟩) hHeld ?_ ?_
  rotate_left
  · rintro w' ⟨s0, s1, s2, s3, s4, s5⟩
    go_simp
    with_reducible rfl
  rotate_left
  · simp only [Act.put, List.setIfInBounds_toArray, List.set_cons_zero, List.set_cons_succ, i64_w, i32_w]
    rfl
  refine take_ (i := 3) (N := some 8) (v := ?_) (a' := ?_) #[true, true, true, true, false, true, false, true, false, false, true, false, true, false, false, false, false, false] rfl rfl (take_ofW HT_.out HW_.out (by kernel_rfl)) (fun _ _ _ h => h) (Or.inl ⟨by rfl, ?_⟩) hHeld ?_ ?_
  rotate_left
  · rintro w' ⟨s0, s1, s2, s3, s4, s5⟩
    go_simp
    with_reducible rfl
  rotate_left
  · simp only [Act.put, List.setIfInBounds_toArray, List.set_cons_zero, List.set_cons_succ, i64_w, i32_w]
    rfl
  refine take_ (i := 6) (N := some 11) (v := ?_) (a' := ?_) #[true, true, true, true, false, true, true, true, false, false, true, false, true, false, false, false, false, false] rfl rfl (take_ofW HT_.out HW_.out (by kernel_rfl)) (fun _ _ _ h => h) (Or.inl ⟨by rfl, ?_⟩) hHeld ?_ ?_
  rotate_left
  · rintro w' ⟨s0, s1, s2, s3, s4, s5⟩
    go_simp
    with_reducible rfl
  rotate_left
  · simp only [Act.put, List.setIfInBounds_toArray, List.set_cons_zero, List.set_cons_succ, i64_w, i32_w]
    rfl
  refine take_ (i := 8) (N := some 13) (v := ?_) (a' := ?_) #[true, true, true, true, false, true, true, true, true, false, true, false, true, false, false, false, false, false] rfl rfl (take_ofW HT_.out HW_.out (by kernel_rfl)) (fun _ _ _ h => h) (Or.inl ⟨by rfl, ?_⟩) hHeld ?_ ?_
  rotate_left
  · rintro w' ⟨s0, s1, s2, s3, s4, s5⟩
    go_simp
    with_reducible rfl
  rotate_left
  · simp only [Act.put, List.setIfInBounds_toArray, List.set_cons_zero, List.set_cons_succ, i64_w, i32_w]
    rfl
  refine take_ (i := 11) (N := some 16) (v := ?_) (a' := ?_) #[true, true, true, true, false, true, true, true, true, false, true, true, true, false, false, false, false, false] rfl rfl (take_ofW HT_.out HW_.out (by kernel_rfl)) (fun _ _ _ h => h) (Or.inl ⟨by rfl, ?_⟩) hHeld ?_ ?_
  rotate_left
  · rintro w' ⟨s0, s1, s2, s3, s4, s5⟩
    go_simp
    with_reducible rfl
  rotate_left
  · simp only [Act.put, List.setIfInBounds_toArray, List.set_cons_zero, List.set_cons_succ, i64_w, i32_w]
    rfl
  refine take_ (i := 13) (N := some 18) (v := ?_) (a' := ?_) #[true, true, true, true, false, true, true, true, true, false, true, true, true, true, false, false, false, false] rfl rfl (take_ofW HT_.out HW_.out (by kernel_rfl)) (fun _ _ _ h => h) (Or.inl ⟨by rfl, ?_⟩) hHeld ?_ ?_
  rotate_left
  · rintro w' ⟨s0, s1, s2, s3, s4, s5⟩
    go_simp
    with_reducible rfl
  rotate_left
  · simp only [Act.put, List.setIfInBounds_toArray, List.set_cons_zero, List.set_cons_succ, i64_w, i32_w]
    rfl
  refine one_ (i := 4) (N := some 9) #[true, true, true, true, true, true, true, true, true, false, true, true, true, true, false, false, false, false] rfl rfl (one_of HT_.out (by kernel_rfl)) (by decide) (fun K hK => ?_)
  refine goes_ Tryz.func98 (by kernel_rfl) rfl #[.int .i64 a0_1, .int .i64 a1_1] (by rfl) rfl rfl (by (try simp only [List.map_toArray, List.map_cons, List.map_nil]); first | done | rfl | (simp only [List.length_drop, List.length_take]; rfl)) ?_
  with_reducible refine (cmp_Compare_int.calls a0_1 a1_1 t186 _ A3.out).mono ?_
  rintro e w' ⟨rfl, ⟨nd1, rfl⟩⟩
  refine ⟨_, rfl, ?_⟩
  refine hK.out _ _ ⟨(blk_cell BK184.out 0).trans rfl, (blk_cell BK184.out 1).trans rfl, (blk_cell BK184.out 2).trans rfl, (blk_cell BK185.out 0).trans rfl, (blk_cell BK185.out 1).trans rfl, (blk_cell BK185.out 2).trans rfl⟩ (fun hHeld => ?_)
  clear hK K
  refine norm_ (a' := ?_) ?_ ?_
  rotate_left
  · show Act.put _ (some 9) _ = _
    simp only [Act.put, List.setIfInBounds_toArray, List.set_cons_zero, List.set_cons_succ, i64_w, i32_w]
    rfl
  refine one_ (i := 9) (N := some 14) #[true, true, true, true, true, true, true, true, true, true, true, true, true, true, false, false, false, false] rfl rfl (one_of HT_.out (by kernel_rfl)) (by decide) (fun K hK => ?_)
  refine goes_ Tryz.func99 (by kernel_rfl) rfl #[.int .i64 a0_0, .int .i64 a1_0] (by rfl) rfl rfl (by (try simp only [List.map_toArray, List.map_cons, List.map_nil]); first | done | rfl | (simp only [List.length_drop, List.length_take]; rfl)) ?_
  with_reducible refine (api_Code_99.calls a0_0 a1_0 t187 _ A4.out).mono ?_
  rintro e w' ⟨rfl, ⟨nd2, rfl⟩⟩
  refine ⟨_, rfl, ?_⟩
  refine hK.out _ _ ⟨(blk_cell BK184.out 0).trans rfl, (blk_cell BK184.out 1).trans rfl, (blk_cell BK184.out 2).trans rfl, (blk_cell BK185.out 0).trans rfl, (blk_cell BK185.out 1).trans rfl, (blk_cell BK185.out 2).trans rfl⟩ (fun hHeld => ?_)
  clear hK K
  refine norm_ (a' := ?_) ?_ ?_
  rotate_left
  · show Act.put _ (some 14) _ = _
    simp only [Act.put, List.setIfInBounds_toArray, List.set_cons_zero, List.set_cons_succ, i64_w, i32_w]
    rfl
  refine one_ (i := 14) (N := some 19) #[true, true, true, true, true, true, true, true, true, true, true, true, true, true, true, false, false, false] rfl rfl (one_of HT_.out (by kernel_rfl)) (by decide) (fun K hK => ?_)
  refine goes_ Tryz.func100 (by kernel_rfl) rfl #[.string a0_2, .string a1_2] (by rfl) rfl rfl (by (try simp only [List.map_toArray, List.map_cons, List.map_nil]); first | done | rfl | (simp only [List.length_drop, List.length_take]; rfl)) ?_
  with_reducible refine (strings_Compare.calls a0_2 a1_2 t188 _ A5.out).mono ?_
  rintro e w' ⟨rfl, ⟨nd3, rfl⟩⟩
  refine ⟨_, rfl, ?_⟩
  refine hK.out _ _ ⟨(blk_cell BK184.out 0).trans rfl, (blk_cell BK184.out 1).trans rfl, (blk_cell BK184.out 2).trans rfl, (blk_cell BK185.out 0).trans rfl, (blk_cell BK185.out 1).trans rfl, (blk_cell BK185.out 2).trans rfl⟩ (fun hHeld => ?_)
  clear hK K
  refine norm_ (a' := ?_) ?_ ?_
  rotate_left
  · show Act.put _ (some 19) _ = _
    simp only [Act.put, List.setIfInBounds_toArray, List.set_cons_zero, List.set_cons_succ, i64_w, i32_w]
    rfl
  refine one_ (i := 15) (N := some 20) #[true, true, true, true, true, true, true, true, true, true, true, true, true, true, true, true, false, false] rfl rfl (one_of HT_.out (by kernel_rfl)) (by decide) (fun K hK => ?_)
  refine R_lit_step2 (Kd.int .i64) _ 3 ?hg (N := 20) ?hd (xs := ([t186, t187, t188] : List Int)) (inner := [.int .i64 t186, .int .i64 t187, .int .i64 t188]) (ok := fun _ => True) (okp := fun _ => True) ?hr ?hp (fun _ hk => hk) trivial (Below.refl _ _) (Nat.le_refl _) (by simp) ?_; (case hd => rfl); (case hg => rfl); (case hr => first | (go_simp; done) | (go_simp; rfl)); (case hp => exact (Reps.one (show Kd.M (Kd.int .i64) _ _ _ t186 [.int .i64 t186] from rfl) (Reps.one (show Kd.M (Kd.int .i64) _ _ _ t187 [.int .i64 t187] from rfl) (Reps.one (show Kd.M (Kd.int .i64) _ _ _ t188 [.int .i64 t188] from rfl) (Reps.none _ _)))))
  intro v190 w10 ho11 hb hg_ hnew_ hd_
  have nd_ := Aside0.mk (show w.drawn ≤ w10.drawn from Nat.le_trans (Nat.le_trans HD.out (show w9.drawn ≤ w9.drawn + nd1 + nd2 + nd3 by omega)) hd_)
  clear HD hd_
  have HD := nd_
  clear nd_
  clear hg_ hnew_
  (first | rw [← Ny189.out] at ho11 | (simp only [Int.reduceToNat] at ho11; rw [← Ny189.out] at ho11))
  have n0_ := Aside0.mk (Kd.R_lower ho11 (below_size (by repeat (first | (with_reducible first | exact HB.out | apply below_alloc | apply pw_below_drewN | apply below_drew1 | refine below_set ?_ GE184.out | refine below_set ?_ GE185.out) | exact HB.out))))
  have n1_ := Aside0.mk (blk_below (g := gb184) (o := .cells #[.int .i64 a0_0, .int .i64 a0_1, .string a0_2] 64 (0, 0)) (by (with_reducible repeat (first | refine blk_drewN ?_ _ | refine blk_drew ?_ | refine blk_alloc ?_ _)); exact BK184.out) hb)
  have n2_ := Aside0.mk (blk_below (g := gb185) (o := .cells #[.int .i64 a1_0, .int .i64 a1_1, .string a1_2] 64 (0, 0)) (by (with_reducible repeat (first | refine blk_drewN ?_ _ | refine blk_drew ?_ | refine blk_alloc ?_ _)); exact BK185.out) hb)
  have n3_ := Aside0.mk (below_step (by repeat (first | (with_reducible first | exact HB.out | apply below_alloc | apply pw_below_drewN | apply below_drew1 | refine below_set ?_ GE184.out | refine below_set ?_ GE185.out) | exact HB.out)) hb)
  clear BK184
  clear BK185
  clear HB
  have HO191 := n0_
  have BK184 := n1_
  have BK185 := n2_
  have HB := n3_
  clear n0_ n1_ n2_ n3_
  clear hb ho11
  obtain ⟨Ao12, co12, eo12⟩ := Kd.R_slice HO191.out
  (first | subst eo12 | (injection eo12 with f1_ f2_ f3_; have f4_ := f1_.symm; have f5_ := f3_.symm; clear f1_ f2_ f3_; subst f4_; subst f5_))
  refine hK.out _ _ ⟨(blk_cell BK184.out 0).trans rfl, (blk_cell BK184.out 1).trans rfl, (blk_cell BK184.out 2).trans rfl, (blk_cell BK185.out 0).trans rfl, (blk_cell BK185.out 1).trans rfl, (blk_cell BK185.out 2).trans rfl⟩ (fun hHeld => ?_)
  clear hK K
  refine norm_ (a' := ?_) ?_ ?_
  rotate_left
  · show Act.put _ (some 20) _ = _
    simp only [Act.put, List.setIfInBounds_toArray, List.set_cons_zero, List.set_cons_succ, i64_w, i32_w]
    rfl
  refine one_ (i := 16) (N := some 21) #[true, true, true, true, true, true, true, true, true, true, true, true, true, true, true, true, true, false] rfl rfl (one_of HT_.out (by kernel_rfl)) (by decide) (fun K hK => ?_)
  refine goes_ Tryz.func97 (by kernel_rfl) rfl #[.slice Ao12 y189.length co12] (by rfl) rfl rfl (by (try simp only [List.map_toArray, List.map_cons, List.map_nil]); first | done | rfl | (simp only [List.length_drop, List.length_take]; rfl)) ?_
  with_reducible refine (cmp_Or_int.calls k _ _ y189 t192 _ ?side1 ?side2 A6.out).mono ?_
  (case side1 => repeat (first | exact (Kd.R_reads' HO191.out).2.2 | (with_reducible refine Kd.C_alloc ?_ _) | (with_reducible refine Kd.C_drewN ?_ _) | (with_reducible refine Kd.C_drew ?_)))
  (case side2 => exact (Kd.R_reads' HO191.out).2.1)
  rintro e w' ⟨rfl, ⟨nd4, rfl⟩⟩
  refine ⟨_, rfl, ?_⟩
  refine hK.out _ _ ⟨(blk_cell BK184.out 0).trans rfl, (blk_cell BK184.out 1).trans rfl, (blk_cell BK184.out 2).trans rfl, (blk_cell BK185.out 0).trans rfl, (blk_cell BK185.out 1).trans rfl, (blk_cell BK185.out 2).trans rfl⟩ (fun hHeld => ?_)
  clear hK K
  refine norm_ (a' := ?_) ?_ ?_
  rotate_left
  · show Act.put _ (some 21) _ = _
    simp only [Act.put, List.setIfInBounds_toArray, List.set_cons_zero, List.set_cons_succ, i64_w, i32_w]
    rfl
  refine pure_ (i := 17) (N := some 4) (v := ?_) (a' := ?_) #[true, true, true, true, true, true, true, true, true, true, true, true, true, true, true, true, true, true] rfl rfl (any_of HT_.out (by kernel_rfl)) (fun _ _ _ h => h) (Or.inl ⟨by rfl, ?_⟩) ?_ ?_
  rotate_left
  · intro w'
    go_simp
    with_reducible rfl
  rotate_left
  · simp only [Act.put, List.setIfInBounds_toArray, List.set_cons_zero, List.set_cons_succ, i64_w, i32_w]
    rfl
  refine done_ (done_of HT_.out (by kernel_rfl)) ?_
  try go_wp2
  go_ret
  exact ⟨by first | rfl | (simp [errW_none, errW_some] <;> rfl) | (simp [*, errW_none, errW_some] <;> rfl), ⟨by repeat (first | (with_reducible first | exact HB.out | apply below_alloc | apply pw_below_drewN | apply below_drew1 | refine below_set ?_ GE184.out | refine below_set ?_ GE185.out) | exact HB.out), Nat.le_trans HD.out (Nat.le_add_right _ _)⟩⟩
open Go.Sort in
/-- The world behind is the old one, some draws on, some blocks more. -/
theorem grow_of {w w' : World} (h : Below w.heap.size w w') (hd : w.drawn ≤ w'.drawn) : ∃ q os, w' = grow (w.drewN q) os := by
  refine ⟨w'.drawn - w.drawn, w'.heap.extract w.heap.size w'.heap.size, ?_⟩
  obtain ⟨hp, tp, dr, os_, out⟩ := w'
  have e : hp = w.heap ++ hp.extract w.heap.size hp.size := by
    apply Array.ext_getElem?
    intro i
    have hsz : w.heap.size ≤ hp.size := h.size
    by_cases hi : i < w.heap.size
    · rw [Array.getElem?_append_left hi]
      exact h.block i hi
    · rw [Array.getElem?_append_right (by omega), Array.getElem?_extract]
      by_cases h2 : i < hp.size
      · rw [if_pos (by omega)]
        congr 1
        omega
      · rw [Array.getElem?_eq_none (by omega), if_neg (by omega)]
  have e2 : dr = w.drawn + (dr - w.drawn) := by have : w.drawn ≤ dr := hd; omega
  unfold grow World.drewN
  simp only
  congr 1
  · exact h.tape
  · exact h.os
  · exact h.output
end Go.Proofs.YtomdidopflebjaaGreatDoor.PM
namespace Go.Proofs.YtomdidopflebjaaGreatDoor.PM
open Go.RowKit Go.Lib Go.Sort Go.Proofs.YtomdidopflebjaaGreatDoorW.PrintWords Go.Proofs.YtomdidopflebjaaGreatDoorW.PrintLast Go.Proofs.YtomdidopflebjaaGreatDoorW.PrintMore
instance : Inhabited S64 := ⟨z64⟩
def enc64 (x : S64) : List Value := [.int .i64 x.f0, .int .i64 x.f1, .string x.f2]
theorem s64_ext {x y : S64} (h0 : x.f0 = y.f0) (h1 : x.f1 = y.f1) (h2 : x.f2.toList = y.f2.toList) : x = y := by
  obtain ⟨a, b, c⟩ := x
  obtain ⟨a', b', c'⟩ := y
  simp only at h0 h1 h2
  subst h0; subst h1
  rw [ByteArray.toList_eq, ByteArray.toList_eq] at h2
  congr
  cases c; cases c'
  simp only [ByteArray.mk.injEq]
  exact Array.toList_inj.1 h2
instance : DecidableEq S64 := fun x y => decidable_of_iff (x.f0 = y.f0 ∧ x.f1 = y.f1 ∧ x.f2.toList = y.f2.toList) ⟨fun h => s64_ext h.1 h.2.1 h.2.2, fun h => by subst h; exact ⟨rfl, rfl, rfl⟩⟩
theorem eq64 (x y : S64) : (x.f0 == y.f0 && (x.f1 == y.f1 && (x.f2.toList == y.f2.toList))) = decide (x = y) := by
  rw [Bool.eq_iff_iff, decide_eq_true_iff, Bool.and_eq_true, Bool.and_eq_true, beq_iff_eq, beq_iff_eq, beq_iff_eq]
  exact ⟨fun h => s64_ext h.1 h.2.1 h.2.2, fun h => by subst h; exact ⟨rfl, rfl, rfl⟩⟩
theorem eql64 (x y : S64) (w : World) : Sem.run Tryz.prog (binOp .eql 64 (.agg (enc64 x).toArray) (.agg (enc64 y).toArray)) w = .ok (.bool (decide (x = y))) w := by
  rw [← eq64]
  have h := eqA64 9998 w x.f0 y.f0 x.f1 y.f1 x.f2 y.f2
  simp only [binOp, Op.equal, Op.maxDepth]
  show Sem.run Tryz.prog ((fun b => Value.bool b) <$> Op.equalIn 10000 64 (.agg #[.int .i64 x.f0, .int .i64 x.f1, .string x.f2]) (.agg #[.int .i64 y.f0, .int .i64 y.f1, .string y.f2])) w = _
  simp [h]
theorem neq64 (x y : S64) (w : World) : Sem.run Tryz.prog (binOp .neq 64 (.agg (enc64 x).toArray) (.agg (enc64 y).toArray)) w = .ok (.bool (!decide (x = y))) w := by
  rw [← eq64]
  have h := eqA64 9998 w x.f0 y.f0 x.f1 y.f1 x.f2 y.f2
  simp only [binOp, Op.equal, Op.maxDepth]
  show Sem.run Tryz.prog ((fun b => Value.bool (!b)) <$> Op.equalIn 10000 64 (.agg #[.int .i64 x.f0, .int .i64 x.f1, .string x.f2]) (.agg #[.int .i64 y.f0, .int .i64 y.f1, .string y.f2])) w = _
  simp [h]
theorem guard64 (op : BinOp) (a b : Operand) (x y : S64) (w : World) : Sem.run Tryz.prog (eqGuard op 64 a b (.agg (enc64 x).toArray) (.agg (enc64 y).toArray)) w = .ok () w := run_eqGuard_agg w op 64 a b _ _ (by kernel_rfl)
theorem k3 (x : S64) : (enc64 x).length = 3 := rfl
theorem c3 {w : World} {blk : Nat} {d : Array S64} (h : HoldsK enc64 3 w blk 0 d) (i : Nat) (hi : i < d.size) :
    w.cell? ⟨blk, i * 3, none⟩ = some (.int .i64 d[i]!.f0) ∧ w.cell? ⟨blk, i * 3 + 1, none⟩ = some (.int .i64 d[i]!.f1) ∧ w.cell? ⟨blk, i * 3 + 2, none⟩ = some (.string d[i]!.f2) := by
  have e : ∀ c v, (enc64 d[i]!)[c]? = some v → w.cell? ⟨blk, i * 3 + c, none⟩ = some v := fun c v hv => by
    have := HoldsK.cells h k3 hi c v hv
    rw [Addr.add_lit, Nat.zero_add] at this
    exact this
  exact ⟨e 0 _ rfl, e 1 _ rfl, e 2 _ rfl⟩
theorem f3 {w : World} {blk : Nat} {d : Array S64} (h : HoldsK enc64 3 w blk 0 d) (i : Nat) (hi : i < d.size) :
    w.frozen? ⟨blk, i * 3, none⟩ = false ∧ w.frozen? ⟨blk, i * 3 + 1, none⟩ = false ∧ w.frozen? ⟨blk, i * 3 + 2, none⟩ = false := by
  have e : ∀ c, c < 3 → w.frozen? ⟨blk, i * 3 + c, none⟩ = false := fun c hc => by
    have := (h.cell hi hc).2
    rw [Nat.zero_add] at this
    exact this
  exact ⟨e 0 (by decide), e 1 (by decide), e 2 (by decide)⟩
theorem flat_get (d : Array S64) (t : Nat) (h : t < d.size * 3) : (flatK enc64 3 d)[t]! = (enc64 d[t / 3]!)[t % 3]! := get_flatK enc64 3 d t h
theorem setMany_lay (d d2 : Array S64) (s : Nat) (hs : s + d2.size ≤ d.size) : setMany (flatK enc64 3 d) (s * 3) (flatK enc64 3 d2).toList = flatK enc64 3 (lay d s d2.toList) := by
  have hsz : (lay d s d2.toList).size = d.size := by
    have key : ∀ (xs : List S64) (e : Array S64) (q : Nat), (lay e q xs).size = e.size := by
      intro xs
      induction xs with
      | nil => intro e q; rfl
      | cons x xs ih => intro e q; rw [lay, ih]; simp
    exact key _ _ _
  refine ext_get! (by simp [hsz]) fun t ht => ?_
  have ht' : t < d.size * 3 := by simpa using ht
  rw [get_setMany _ _ _ t (by simpa using ht'), flat_get (lay d s d2.toList) t (by rw [hsz]; exact ht')]
  have hlay : (lay d s d2.toList)[t / 3]! = if s ≤ t / 3 ∧ t / 3 < s + d2.size then d2[t / 3 - s]! else d[t / 3]! := by
    have h := lay_get? d2.toList d s (t / 3) (by simpa using hs)
    rw [Array.getElem!_eq_getD, Array.getD_eq_getD_getElem?, h]
    simp only [Array.length_toList]
    split
    · rw [Array.getElem!_eq_getD, Array.getD_eq_getD_getElem?]
      simp
    · rw [Array.getElem!_eq_getD, Array.getD_eq_getD_getElem?]
  rw [hlay]
  have hl : (flatK enc64 3 d2).toList.length = d2.size * 3 := by simp
  by_cases hc : s ≤ t / 3 ∧ t / 3 < s + d2.size
  · rw [if_pos hc, if_pos (by rw [hl]; omega)]
    have e : (flatK enc64 3 d2).toList[t - s * 3]! = (flatK enc64 3 d2)[t - s * 3]! := by
      rw [getElem!_pos (flatK enc64 3 d2).toList (t - s * 3) (by rw [hl]; omega), getElem!_pos (flatK enc64 3 d2) (t - s * 3) (by simp; omega)]
      simp
    rw [e, flat_get d2 _ (by omega), show (t - s * 3) / 3 = t / 3 - s from by omega, show (t - s * 3) % 3 = t % 3 from by omega]
  · rw [if_neg hc, if_neg (by rw [hl]; omega), flat_get d t ht']
theorem setMany_one (d : Array S64) (s : Nat) (u : S64) (hs : s < d.size) : setMany (flatK enc64 3 d) (s * 3) (enc64 u) = flatK enc64 3 (d.setIfInBounds s u) := by
  refine ext_get! (by simp) fun t ht => ?_
  have ht' : t < d.size * 3 := by simpa using ht
  rw [get_setMany _ _ _ t (by simpa using ht'), flat_get (d.setIfInBounds s u) t (by simpa using ht'), k3]
  by_cases hc : t / 3 = s
  · have e : (d.setIfInBounds s u)[t / 3]! = u := by
      rw [Array.getElem!_eq_getD, Array.getD_eq_getD_getElem?, Array.getElem?_setIfInBounds, if_pos hc.symm, if_pos hs]
      rfl
    rw [if_pos (by omega), e, show t - s * 3 = t % 3 from by omega]
  · have e : (d.setIfInBounds s u)[t / 3]! = d[t / 3]! := by
      rw [Array.getElem!_eq_getD, Array.getD_eq_getD_getElem?, Array.getElem?_setIfInBounds, if_neg (fun h => hc h.symm), Array.getElem!_eq_getD, Array.getD_eq_getD_getElem?]
    rw [if_neg (by omega), flat_get d t ht', e]
theorem store_world {w wr : World} {n blk : Nat} {dk : Array S64} {i : Nat} (hi : i < dk.size) (hwr : wr = putRowK enc64 3 (Sort.ahead w n) blk 0 dk) (x : S64) :
    (((wr.setCell ⟨blk, i * 3, none⟩ (.int .i64 x.f0)).setCell ⟨blk, i * 3 + 1, none⟩ (.int .i64 x.f1)).setCell ⟨blk, i * 3 + 2, none⟩ (.string x.f2)).drew = putRowK enc64 3 (Sort.ahead w (n + 1)) blk 0 (dk.setIfInBounds i x) := by
  subst hwr
  have e : ((((putRowK enc64 3 (Sort.ahead w n) blk 0 dk).setCell ⟨blk, i * 3, none⟩ (.int .i64 x.f0)).setCell ⟨blk, i * 3 + 1, none⟩ (.int .i64 x.f1)).setCell ⟨blk, i * 3 + 2, none⟩ (.string x.f2)) = (putRowK enc64 3 (Sort.ahead w n) blk 0 dk).setCells blk (0 + i * 3) (enc64 x) := by
    rw [Nat.zero_add]
    rfl
  rw [e]
  unfold putRowK
  rw [setCells_putRow _ _ _ _ _ _ (by rw [k3, size_flatK]; omega), setMany_one dk i x hi]
  rfl
theorem zero_flat (n : Nat) : Builtin.zeroCells #[.int .i64 0, .int .i64 0, .string ⟨#[]⟩] n = flatK enc64 3 (Array.replicate n z64) := by
  unfold Builtin.zeroCells
  refine ext_get! (by simp) fun t ht => ?_
  have ht' : t < n * 3 := by simpa using ht
  rw [flat_get _ t (by simpa using ht')]
  have e1 : (Array.replicate n z64)[t / 3]! = z64 := by
    rw [Array.getElem!_eq_getD, Array.getD_eq_getD_getElem?, Array.getElem?_replicate, if_pos (by omega)]
    rfl
  rw [e1]
  have e2 : ((Array.range (n * 3)).map fun i => (#[Value.int .i64 0, Value.int .i64 0, Value.string ⟨#[]⟩] : Array Value)[i % 3]!)[t]! = (#[Value.int .i64 0, Value.int .i64 0, Value.string ⟨#[]⟩] : Array Value)[t % 3]! := by
    rw [Array.getElem!_eq_getD, Array.getD_eq_getD_getElem?]
    simp [ht']
  show ((Array.range (n * 3)).map fun i => (#[Value.int .i64 0, Value.int .i64 0, Value.string ⟨#[]⟩] : Array Value)[i % 3]!)[t]! = _
  rw [e2]
  have h3 : t % 3 < 3 := Nat.mod_lt _ (by decide)
  generalize t % 3 = m at h3
  match m, h3 with
  | 0, _ => rfl
  | 1, _ => rfl
  | 2, _ => rfl
theorem clear64 (w : World) (blk s n c ty : Nat) (dk : Array S64) (hH : HoldsK enc64 3 w blk 0 dk) (hn : 0 < n) (hs : s + n ≤ dk.size) :
    (Builtin.clear_ #[35] ty #[.slice (some ⟨blk, s * 3, none⟩) n c]).run Tryz.prog w = .ok (.tuple #[]) (w.setCells blk (s * 3) (flatK enc64 3 (Array.replicate n z64)).toList) := by
  have hst := stores_of_holds Tryz.prog hH (s * 3) (flatK enc64 3 (Array.replicate n z64)).toList (by simp; omega) (fun v hv => by
    obtain ⟨i, hi, rfl⟩ := List.getElem_of_mem hv
    have hi' : i < n * 3 := by simpa using hi
    have e : (flatK enc64 3 (Array.replicate n z64)).toList[i] = (flatK enc64 3 (Array.replicate n z64))[i]! := by
      rw [getElem!_pos _ i (by simpa using hi')]
      simp
    rw [e, flat_get _ i (by simpa using hi')]
    have e1 : (Array.replicate n z64)[i / 3]! = z64 := by
      rw [Array.getElem!_eq_getD, Array.getD_eq_getD_getElem?, Array.getElem?_replicate, if_pos (by omega)]
      rfl
    rw [e1]
    have h3 : i % 3 < 3 := Nat.mod_lt _ (by decide)
    generalize i % 3 = m at h3
    match m, h3 with
    | 0, _ => rfl
    | 1, _ => rfl
    | 2, _ => rfl)
  rw [Nat.zero_add] at hst
  obtain ⟨m, rfl⟩ : ∃ m, n = m + 1 := ⟨n - 1, by omega⟩
  simp [Builtin.clear_, run_underlying Tryz.underlying35, Value.cells, zero_flat, hst]
set_option maxHeartbeats 8000000 in
set_option maxRecDepth 1000000 in
theorem compact_walk (blk cap : Nat) (d : Array S64) (w : World) (hH : HoldsK enc64 3 w blk 0 d) (hsz : d.size ≤ 9223372036854775807) (hcap : d.size ≤ cap) :
    Calls Tryz.prog 80 #[.slice (some ⟨blk, 0, none⟩) d.size cap] w fun e w' => e = .returned (.slice (some ⟨blk, 0, none⟩) (compactUpTo d d.size).length cap) ∧ ∃ q, w' = putRowK enc64 3 (Sort.ahead w q) blk 0 (compactUpTo d d.size ++ List.replicate (d.size - (compactUpTo d d.size).length) z64).toArray := by
  have same : ∀ q, (∀ j, j < d.size → keeps d j = true) → (compactUpTo d d.size).length = d.size ∧ w.drewN q = putRowK enc64 3 (Sort.ahead w q) blk 0 (compactUpTo d d.size ++ List.replicate (d.size - (compactUpTo d d.size).length) z64).toArray := by
    intro q hall
    have e : compactUpTo d d.size = d.toList := by rw [compactUpTo_all d _ hall, range_map_get]
    rw [e]
    refine ⟨by simp, ?_⟩
    simp only [Array.length_toList, Nat.sub_self, List.replicate_zero, List.append_nil, Array.toArray_toList]
    exact (putRowK_self enc64 3 (Sort.ahead w q) blk 0 d (holdsK_ahead enc64 3 w q blk 0 d hH)).symm
  have HS : Aside0 (∀ q, (∀ j, j < d.size → keeps d j = true) → (compactUpTo d d.size).length = d.size ∧ w.drewN q = putRowK enc64 3 (Sort.ahead w q) blk 0 (compactUpTo d d.size ++ List.replicate (d.size - (compactUpTo d d.size).length) z64).toArray) := ⟨same⟩
  have HH : Aside0 (HoldsK enc64 3 w blk 0 d) := ⟨hH⟩
  have mixed : Tryz.prog.follows Departure.mixedOrders = true := by kernel_rfl
  clear same hH
  by_cases h2 : d.size < 2
  · go_enter Tryz.func80, Tryz.ntmps80
    go_wp2
    go_ret
    obtain ⟨e1, e2⟩ := HS.out 0 (fun j hj => keeps_lt_one d j (by omega))
    exact ⟨by rw [e1]; rfl, 0, e2⟩
  · go_enter Tryz.func80, Tryz.ntmps80
    go_wp2
    go_loopg [3] d.size (fun g s3 wr => ∃ k q : Nat, 1 ≤ k ∧ k ≤ d.size ∧ d.size - k ≤ g ∧ s3 = .int .i64 k ∧ wr = w.drewN q ∧ Aside0 (∀ j, j < k → keeps d j = true))
    case atStart => exact ⟨1, 0, Nat.le_refl _, by omega, by omega, rfl, rfl, ⟨keeps_lt_one d⟩⟩
    case round =>
      obtain ⟨k, q, hk1, hk, hg, rfl, rfl, A⟩ := hrel
      by_cases hlt : k < d.size
      · obtain ⟨c1, c2, c3_⟩ := c3 HH.out k hlt
        obtain ⟨b1, b2, b3⟩ := c3 HH.out (k - 1) (by omega)
        generalize hx : d[k]! = x at c1 c2 c3_
        generalize hy : d[k - 1]! = y at b1 b2 b3
        have B : Aside0 (d[k]! = x ∧ d[k - 1]! = y) := ⟨hx, hy⟩
        clear hx hy
        have hgd : ∀ (op : BinOp) (a b : Operand) (w : World), Sem.run Tryz.prog (eqGuard op 64 a b (.agg #[.int .i64 x.f0, .int .i64 x.f1, .string x.f2]) (.agg #[.int .i64 y.f0, .int .i64 y.f1, .string y.f2])) w = .ok () w := fun op a b w => guard64 op a b x y w
        by_cases hdup : x = y
        · have heq : ∀ (w : World), Sem.run Tryz.prog (binOp .eql 64 (.agg #[.int .i64 x.f0, .int .i64 x.f1, .string x.f2]) (.agg #[.int .i64 y.f0, .int .i64 y.f1, .string y.f2])) w = .ok (.bool true) w := fun w => by
            have := eql64 x y w
            rw [decide_eq_true hdup] at this
            exact this
          go_wp2_with fail
          go_region_o
          go_wp2
          clear c1 c2 c3_ b1 b2 b3 heq hgd
          have HST : Aside0 (CompInv d (k + 1) k d) := ⟨CompInv.start A.out (keeps_neg (by omega) (by rw [B.out.1, B.out.2, hdup]))⟩
          clear hdup
          go_loopg [3, 5] d.size (fun g s3 s5 wr => ∃ (kk k2 q2 : Nat) (dk : Array S64), s3 = .int .i64 kk ∧ s5 = .int .i64 k2 ∧ 1 ≤ k2 ∧ k + k2 ≤ d.size ∧ d.size - (k + k2) ≤ g ∧ Aside0 (wr = putRowK enc64 3 (Sort.ahead w q2) blk 0 dk) ∧ Aside0 (CompInv d (k + k2) kk dk))
          case atStart => exact ⟨k, 1, q + 1, d, rfl, rfl, Nat.le_refl _, by omega, by omega, ⟨(putRowK_self enc64 3 (Sort.ahead w (q + 1)) blk 0 d (holdsK_ahead enc64 3 w (q + 1) blk 0 d HH.out)).symm⟩, HST⟩
          case round =>
            obtain ⟨kk, k2, q2, dk, rfl, rfl, h1, hle, hg2, W2, I2⟩ := hrel
            have hkk := I2.out.lt
            have hds := I2.out.size
            have HK : Aside0 (HoldsK enc64 3 wr blk 0 dk) := ⟨by rw [W2.out]; exact holdsK_putRowK enc64 3 _ blk 0 d dk (holdsK_ahead enc64 3 w q2 blk 0 d HH.out) hds⟩
            by_cases hlt2 : k + k2 < d.size
            · obtain ⟨m1, m2, m3⟩ := c3 HK.out (k + k2) (by omega)
              obtain ⟨p1, p2, p3⟩ := c3 HK.out (k + k2 - 1) (by omega)
              obtain ⟨o1, o2, o3⟩ := c3 HK.out kk (by omega)
              obtain ⟨z1, z2, z3⟩ := f3 HK.out kk (by omega)
              rw [I2.out.high (k + k2) (by omega)] at m1 m2 m3
              rw [I2.out.high (k + k2 - 1) (by omega)] at p1 p2 p3
              generalize hu : d[k + k2]! = u at m1 m2 m3
              generalize hv : d[k + k2 - 1]! = v at p1 p2 p3
              generalize dk[kk]! = old at o1 o2 o3
              have C : Aside0 (d[k + k2]! = u ∧ d[k + k2 - 1]! = v) := ⟨hu, hv⟩
              clear hu hv
              have e1 : (k + k2) * 3 = k * 3 + k2 * 3 := by omega
              have e2 : (k + k2 - 1) * 3 = k * 3 + (k2 - 1) * 3 := by omega
              rw [e1] at m1 m2 m3
              rw [e2] at p1 p2 p3
              clear e1 e2
              have hgd : ∀ (op : BinOp) (a b : Operand) (w : World), Sem.run Tryz.prog (eqGuard op 64 a b (.agg #[.int .i64 u.f0, .int .i64 u.f1, .string u.f2]) (.agg #[.int .i64 v.f0, .int .i64 v.f1, .string v.f2])) w = .ok () w := fun op a b w => guard64 op a b u v w
              by_cases huv : u = v
              · have heq : ∀ (w : World), Sem.run Tryz.prog (binOp .neq 64 (.agg #[.int .i64 u.f0, .int .i64 u.f1, .string u.f2]) (.agg #[.int .i64 v.f0, .int .i64 v.f1, .string v.f2])) w = .ok (.bool false) w := fun w => by
                  have := neq64 u v w
                  rw [decide_eq_true huv] at this
                  exact this
                have HUV : Aside0 (u = v) := ⟨huv⟩
                clear huv
                go_wp2_with fail
                go_region_o
                go_wp2
                go_roundg (d.size - (k + (k2 + 1)))
                case measure => omega
                case rel => exact ⟨kk, k2 + 1, q2 + 1, dk, rfl, by go_num, by omega, by omega, Nat.le_refl _, ⟨by rw [W2.out]; rfl⟩, ⟨I2.out.skip (keeps_neg (by omega) (by rw [C.out.1, C.out.2, HUV.out]))⟩⟩
              · have heq : ∀ (w : World), Sem.run Tryz.prog (binOp .neq 64 (.agg #[.int .i64 u.f0, .int .i64 u.f1, .string u.f2]) (.agg #[.int .i64 v.f0, .int .i64 v.f1, .string v.f2])) w = .ok (.bool true) w := fun w => by
                  have := neq64 u v w
                  rw [decide_eq_false huv] at this
                  exact this
                have HUV : Aside0 (u ≠ v) := ⟨huv⟩
                clear huv
                go_wp2_with fail
                go_region_o
                go_wp2
                go_roundg (d.size - (k + (k2 + 1)))
                case measure => omega
                case rel => exact ⟨kk + 1, k2 + 1, q2 + 1, dk.setIfInBounds kk u, by go_num, by go_num, by omega, by omega, Nat.le_refl _, ⟨store_world (by omega) W2.out u⟩, ⟨by have := I2.out.keep hlt2 (keeps_pos (by rw [C.out.1, C.out.2]; exact HUV.out)); rwa [C.out.1] at this⟩⟩
            · have hend : k + k2 = d.size := by omega
              have hcl : ∀ ty, (Builtin.clear_ #[35] ty #[.slice (some ⟨blk, kk * 3, none⟩) (d.size - kk) (cap - kk)]).run Tryz.prog wr = .ok (.tuple #[]) (wr.setCells blk (kk * 3) (flatK enc64 3 (Array.replicate (d.size - kk) z64)).toList) :=
                fun ty => clear64 wr blk kk (d.size - kk) (cap - kk) ty dk HK.out (by omega) (by omega)
              go_wp2
              go_ret
              have hI := I2.out
              rw [hend] at hI
              refine ⟨by rw [hI.len]; rfl, q2, ?_⟩
              rw [hI.len, ← hI.done z64, W2.out]
              unfold putRowK
              rw [show kk * 3 = 0 + kk * 3 from by omega, setCells_putRow _ _ _ _ _ _ (by simp; omega), setMany_lay dk (Array.replicate (d.size - kk) z64) kk (by simp; omega)]
              simp
        · have heq : ∀ (w : World), Sem.run Tryz.prog (binOp .eql 64 (.agg #[.int .i64 x.f0, .int .i64 x.f1, .string x.f2]) (.agg #[.int .i64 y.f0, .int .i64 y.f1, .string y.f2])) w = .ok (.bool false) w := fun w => by
            have := eql64 x y w
            rw [decide_eq_false hdup] at this
            exact this
          go_wp2_with fail
          go_region_o
          go_wp2
          go_roundg (d.size - (k + 1))
          case measure => omega
          case rel =>
            refine ⟨k + 1, q + 1, by omega, by omega, Nat.le_refl _, by go_num, rfl, ⟨fun j hj => ?_⟩⟩
            by_cases e : j = k
            · subst e
              exact keeps_pos (by rw [B.out.1, B.out.2]; exact hdup)
            · exact A.out j (by omega)
      · have : k = d.size := by omega
        subst this
        go_wp2
        go_ret
        obtain ⟨e1, e2⟩ := HS.out q A.out
        exact ⟨by rw [e1]; rfl, q, e2⟩
end Go.Proofs.YtomdidopflebjaaGreatDoor.PM
namespace Go.Proofs
open Go.Shelf
def Tryz.sortD_ren : Go.Shelf.Ren := ⟨fun | 6 => 78 | 15 => 96 | 14 => 95 | 28 => 116 | 29 => 117 | 20 => 108 | 21 => 109 | 22 => 110 | 23 => 111 | 24 => 112 | 25 => 113 | 26 => 114 | 27 => 115 | 46 => 125 | 47 => 126 | 48 => 127 | 49 => 128 | 50 => 129 | 57 => 133 | n => n, fun | 22 => 35 | 24 => 64 | 25 => 140 | 3 => 3 | 39 => 131 | 0 => 0 | 53 => 150 | 55 => 153 | 4 => 4 | 46 => 173 | 45 => 172 | 50 => 177 | 5 => 5 | 9 => 9 | 66 => 185 | 70 => 189 | 76 => 191 | 77 => 192 | n => n, fun | n => n⟩
theorem Tryz.sortD : Go.Proofs.SlLaysF0.n6 Tryz.prog Tryz.sortD_ren := {
  mixed := by kernel_rfl
  f6 := ⟨Tryz.f78.name, by decide, Tryz.func78.trans (congrArg some (by kernel_rfl))⟩
  f14 := ⟨Tryz.f95.name, by decide, Tryz.func95.trans (congrArg some (by kernel_rfl))⟩
  f15 := Tryz.func96.trans (congrArg some (by kernel_rfl))
  f20 := ⟨Tryz.f108.name, by decide, Tryz.func108.trans (congrArg some (by kernel_rfl))⟩
  f21 := ⟨Tryz.f109.name, by decide, Tryz.func109.trans (congrArg some (by kernel_rfl))⟩
  f22 := ⟨Tryz.f110.name, by decide, Tryz.func110.trans (congrArg some (by kernel_rfl))⟩
  f23 := ⟨Tryz.f111.name, by decide, Tryz.func111.trans (congrArg some (by kernel_rfl))⟩
  f24 := ⟨Tryz.f112.name, by decide, Tryz.func112.trans (congrArg some (by kernel_rfl))⟩
  f25 := ⟨Tryz.f113.name, by decide, Tryz.func113.trans (congrArg some (by kernel_rfl))⟩
  f26 := ⟨Tryz.f114.name, by decide, Tryz.func114.trans (congrArg some (by kernel_rfl))⟩
  f27 := ⟨Tryz.f115.name, by decide, Tryz.func115.trans (congrArg some (by kernel_rfl))⟩
  f28 := Tryz.func116.trans (congrArg some (by kernel_rfl))
  f29 := Tryz.func117.trans (congrArg some (by kernel_rfl))
  f46 := ⟨Tryz.f125.name, by decide, Tryz.func125.trans (congrArg some (by kernel_rfl))⟩
  f47 := Tryz.func126.trans (congrArg some (by kernel_rfl))
  f48 := Tryz.func127.trans (congrArg some (by kernel_rfl))
  f49 := ⟨Tryz.f128.name, by decide, Tryz.func128.trans (congrArg some (by kernel_rfl))⟩
  f50 := ⟨Tryz.f129.name, by decide, Tryz.func129.trans (congrArg some (by kernel_rfl))⟩
  f57 := ⟨Tryz.f133.name, by decide, Tryz.func133.trans (congrArg some (by kernel_rfl))⟩
  t0 := Tryz.underlying0
  a0 := Tryz.isAgg0
  z0 := Tryz.sizeOf0
  v0 := Tryz.zeroValue0
  t3 := Tryz.underlying3
  a3 := Tryz.isAgg3
  z3 := Tryz.sizeOf3
  v3 := Tryz.zeroValue3
  t4 := Tryz.underlying4
  a4 := Tryz.isAgg4
  z4 := Tryz.sizeOf4
  v4 := Tryz.zeroValue4
  t5 := Tryz.underlying5
  a5 := Tryz.isAgg5
  z5 := Tryz.sizeOf5
  v5 := Tryz.zeroValue5
  t9 := Tryz.underlying9
  a9 := Tryz.isAgg9
  z9 := Tryz.sizeOf9
  v9 := Tryz.zeroValue9
  t22 := Tryz.underlying35
  a22 := Tryz.isAgg35
  z22 := Tryz.sizeOf35
  v22 := Tryz.zeroValue35
  t25 := Tryz.underlying140
  a25 := Tryz.isAgg140
  z25 := Tryz.sizeOf140
  v25 := Tryz.zeroValue140
  t39 := Tryz.underlying131
  a39 := Tryz.isAgg131
  z39 := Tryz.sizeOf131
  v39 := Tryz.zeroValue131
  t45 := Tryz.underlying172
  a45 := Tryz.isAgg172
  z45 := Tryz.sizeOf172
  v45 := Tryz.zeroValue172
  t46 := Tryz.underlying173
  a46 := Tryz.isAgg173
  z46 := Tryz.sizeOf173
  v46 := Tryz.zeroValue173
  t50 := Tryz.underlying177
  a50 := Tryz.isAgg177
  z50 := Tryz.sizeOf177
  v50 := Tryz.zeroValue177
  t53 := Tryz.underlying150
  a53 := Tryz.isAgg150
  z53 := Tryz.sizeOf150
  v53 := Tryz.zeroValue150
  t55 := Tryz.underlying153
  a55 := Tryz.isAgg153
  z55 := Tryz.sizeOf153
  v55 := Tryz.zeroValue153
  t66 := Tryz.underlying185
  a66 := Tryz.isAgg185
  z66 := Tryz.sizeOf185
  v66 := Tryz.zeroValue185
  t70 := Tryz.underlying189
  a70 := Tryz.isAgg189
  z70 := Tryz.sizeOf189
  v70 := Tryz.zeroValue189
  t76 := Tryz.underlying191
  a76 := Tryz.isAgg191
  z76 := Tryz.sizeOf191
  v76 := Tryz.zeroValue191
  t77 := Tryz.underlying192
  a77 := Tryz.isAgg192
  z77 := Tryz.sizeOf192
  v77 := Tryz.zeroValue192 }
end Go.Proofs
namespace Go.Proofs.YtomdidopflebjaaGreatDoor.OrdS
open Go.RowKit Go.Proofs.YtomdidopflebjaaGreatDoor.PM Go.Proofs.YtomdidopflebjaaGreatDoorW.PrintWords Go.Proofs.YtomdidopflebjaaGreatDoorW.PrintLast
/-- Which of two lists of bytes is less. -/
theorem cb_cases : ∀ a b : List UInt8, (Lib.compareBytes a b = -1 ∧ Op.bytesLess a b = true ∧ Op.bytesLess b a = false ∧ a ≠ b) ∨ (Lib.compareBytes a b = 0 ∧ Op.bytesLess a b = false ∧ Op.bytesLess b a = false ∧ a = b) ∨ (Lib.compareBytes a b = 1 ∧ Op.bytesLess a b = false ∧ Op.bytesLess b a = true ∧ a ≠ b)
  | [], [] => .inr (.inl ⟨rfl, rfl, rfl, rfl⟩)
  | [], _ :: _ => .inl ⟨rfl, rfl, rfl, by simp⟩
  | _ :: _, [] => .inr (.inr ⟨rfl, rfl, rfl, by simp⟩)
  | a :: x, b :: y => by
    simp only [Lib.compareBytes, Op.bytesLess]
    by_cases h1 : a < b
    · rw [if_pos h1]
      have h2 : ¬ b < a := UInt8.not_lt.2 (UInt8.le_of_lt h1)
      have h3 : ¬ a = b := fun h => UInt8.lt_irrefl _ (h ▸ h1)
      have h4 : ¬ b = a := fun h => h3 h.symm
      exact .inl ⟨rfl, by simp [h1], by simp [h2, h4], by simp [h3]⟩
    · by_cases h2 : b < a
      · rw [if_neg h1, if_pos h2]
        have h3 : ¬ a = b := fun h => UInt8.lt_irrefl _ (h ▸ h2)
        exact .inr (.inr ⟨rfl, by simp [h1, h3], by simp [h2], by simp [h3]⟩)
      · rw [if_neg h1, if_neg h2]
        obtain rfl : a = b := UInt8.le_antisymm (UInt8.not_lt.1 h2) (UInt8.not_lt.1 h1)
        rcases cb_cases x y with ⟨e1, e2, e3, e4⟩ | ⟨e1, e2, e3, e4⟩ | ⟨e1, e2, e3, e4⟩
        · exact .inl ⟨e1, by simp [e2], by simp [h1, e3], by simp [e4]⟩
        · exact .inr (.inl ⟨e1, by simp [h1, e2], by simp [h1, e3], by simp [e4]⟩)
        · exact .inr (.inr ⟨e1, by simp [h1, e2], by simp [e3], by simp [e4]⟩)
/-- The order: by place, by code, by node. -/
def dAhead (c a : Int) (s : List UInt8) (c' a' : Int) (s' : List UInt8) : Bool := if a = a' then (if c = c' then Op.bytesLess s s' else decide (c < c')) else decide (a < a')
theorem wrap_small (i : Int) (h0 : 0 ≤ i) (h1 : i ≤ 10) : wrap64 (i + 1) = i + 1 := by unfold wrap64; omega
theorem or3 (k : Nat) (x y z : Int) : cmp_Or_int.f (k + 4) [x, y, z] = some (if x = 0 then (if y = 0 then z else y) else x) := by
  unfold cmp_Or_int.f
  by_cases hx : x = 0
  · subst hx
    by_cases hy : y = 0
    · subst hy
      by_cases hz : z = 0
      · subst hz
        simp [cmp_Or_int.l0, rd, wrap64]
      · simp [cmp_Or_int.l0, rd, wrap64, hz]
    · simp [cmp_Or_int.l0, rd, wrap64, hy]
  · simp [cmp_Or_int.l0, rd, hx]
theorem compare_eq (k : Nat) (c a : Int) (s : ByteArray) (c' a' : Int) (s' : ByteArray) :
    merge_compare.f (k + 4) c a s c' a' s' = some (if a = a' then (if c = c' then Lib.compareBytes s.data.toList s'.data.toList else if c < c' then -1 else 1) else if a < a' then -1 else 1) := by
  have h1 : ∀ x y : Int, cmp_Compare_int.f x y = some (if x = y then 0 else if x < y then -1 else 1) := by
    intro x y
    unfold cmp_Compare_int.f cmp_isNaN_int.f
    by_cases e : x = y
    · subst e; simp
    · by_cases l : x < y
      · simp [e, l]
      · have g : y < x := by omega
        simp [e, l, g]
  have h2 : ∀ x y : Int, api_Code_99.f x y = some (if x = y then 0 else if x < y then -1 else 1) := by
    intro x y
    unfold api_Code_99.f api_Code_119.f
    by_cases e : x = y
    · subst e; simp
    · by_cases l : x < y
      · simp [e, l]
      · have g : y < x := by omega
        simp [e, l, g]
  unfold merge_compare.f strings_Compare.f
  rw [h1, h2]
  simp only [Option.bind_some, or3]
  by_cases e : a = a'
  · subst e
    by_cases e2 : c = c'
    · subst e2; simp
    · by_cases l : c < c'
      · simp [e2, l]
      · simp [e2, l]
  · by_cases l : a < a'
    · simp [e, l]
    · simp [e, l]
end Go.Proofs.YtomdidopflebjaaGreatDoor.OrdS
namespace Go.Proofs.YtomdidopflebjaaGreatDoor.PM
open Go.RowKit Go.Lib Go.Sort Go.Proofs.YtomdidopflebjaaGreatDoor.OrdS Go.Proofs.YtomdidopflebjaaGreatDoorW.PrintWords Go.Proofs.YtomdidopflebjaaGreatDoorW.PrintLast Go.Proofs.YtomdidopflebjaaGreatDoorW.PrintMore
theorem infoD64 : (Tryz.prog.info? 64).map (fun i => (i.zero, i.size, i.bytes)) = some (some (.agg #[.int .i64 0, .int .i64 0, .string ⟨#[]⟩]), 3, 32) := by kernel_rfl
set_option maxHeartbeats 2000000 in
set_option maxRecDepth 100000 in
theorem clone_walk (ad : Addr) (n c : Nat) (news : List Value) (w : World) (hl : news.length = n * 3) (hn : n ≤ maxLen) (hbig : n * 32 ≤ 140737488355328)
    (hc : ∀ j u, news[j]? = some u → w.cell? (ad.add j) = some u) (h1 : ∀ u ∈ news, u.oneCell' = true) :
    Calls Tryz.prog 77 #[.slice (some ad) n c] w fun e w' => ∃ v', e = .returned v' ∧ w'.ownsRow w.heap.size 64 3 v' n news ∧ v' ≠ .slice none 0 0 ∧ Below w.heap.size w w' := by
  obtain ⟨i0, hi, hz0, hz1, hz2⟩ := info_parts infoD64
  have q22 : ∀ (w : World) (a : Option Addr) (n c n' c' : Nat), (binOp .eql 35 (.slice a n c) (.slice none n' c')).run Tryz.prog w = .ok (.bool a.isNone) w := fun w a n c n' c' => Lib.run_eql_slice_nil w _ _ a n c n' c' Tryz.underlying35
  have u22 : ∀ w, Sem.run Tryz.prog (underlying 35) w = .ok (TypeDesc.slice 64) w := run_underlying Tryz.underlying35
  have A : Aside0 (∀ j u, news[j]? = some u → w.cell? (ad.add j) = some u) := ⟨hc⟩
  clear hc
  go_enter Tryz.func77, Tryz.ntmps77
  go_wp2_with (at_builtin; refine wpList_append_own _ rfl _ _ 35 rfl w.heap.size 64 i0 _ 3 32 Tryz.underlying35 hi hz0 hz1 hz2 rfl (by decide) _ _ _ rfl (World.ownsRow_made w #[] 0 (Nat.le_refl _) (Nat.zero_le _) (by simp)) ad n c news rfl ?qc1 ?qc2 ?qc3 ?qc4 ?qc5 ?qc6 ?_)
  case qc1 => exact hl
  case qc2 =>
    intro j u hj
    exact Lib.cell?_alloc_some _ (A.out j u hj)
  case qc3 => exact h1
  case qc4 => rw [Nat.zero_add]; exact hn
  case qc5 => rw [Nat.zero_add]; exact hbig
  case qc6 => simp
  intro v' w1 hown hgrow hnil
  go_wp2
  go_ret
  refine ⟨v', rfl, by simpa using hown, ?_, ?_⟩
  · exact hnil
  · exact ((Below.refl _ w).alloc (Nat.le_refl _) _).grown hgrow (by simp) (by intro k hk; simp [Value.ownBlock] at hk; omega)
set_option maxHeartbeats 1000000 in
theorem clone_nil (n c : Nat) (w : World) : Calls Tryz.prog 77 #[.slice none n c] w fun e w' => e = .returned (.slice none 0 0) ∧ w' = w := by
  have q22 : ∀ (w : World) (a : Option Addr) (n c n' c' : Nat), (binOp .eql 35 (.slice a n c) (.slice none n' c')).run Tryz.prog w = .ok (.bool a.isNone) w := fun w a n c n' c' => Lib.run_eql_slice_nil w _ _ a n c n' c' Tryz.underlying35
  go_enter Tryz.func77, Tryz.ntmps77
  go_wp2
  go_ret
  exact ⟨rfl, rfl⟩
set_option maxHeartbeats 1000000 in
theorem compact_few (p : Option Addr) (n c : Nat) (hn : n < 2) (w : World) : Calls Tryz.prog 80 #[.slice p n c] w fun e w' => e = .returned (.slice p n c) ∧ w' = w := by
  go_enter Tryz.func80, Tryz.ntmps80
  go_wp2
  go_ret
  exact ⟨rfl, rfl⟩
def lt64 (x y : S64) : Bool := dAhead x.f0 x.f1 x.f2.data.toList y.f0 y.f1 y.f2.data.toList
def cmpD (x y : S64) : Int := if x.f1 = y.f1 then (if x.f0 = y.f0 then Lib.compareBytes x.f2.data.toList y.f2.data.toList else if x.f0 < y.f0 then -1 else 1) else if x.f1 < y.f1 then -1 else 1
theorem ltOf_cmpD (x y : S64) : ltOf cmpD x y = lt64 x y := by
  unfold ltOf cmpD lt64 dAhead
  by_cases e1 : x.f1 = y.f1
  · rw [if_pos e1, if_pos e1]
    by_cases e0 : x.f0 = y.f0
    · rw [if_pos e0, if_pos e0]
      rcases cb_cases x.f2.data.toList y.f2.data.toList with ⟨h1, h2, _⟩ | ⟨h1, h2, _⟩ | ⟨h1, h2, _⟩ <;> rw [h1, h2] <;> rfl
    · rw [if_neg e0, if_neg e0]
      by_cases l : x.f0 < y.f0
      · rw [if_pos l, decide_eq_true l]; rfl
      · rw [if_neg l, decide_eq_false l]; rfl
  · rw [if_neg e1, if_neg e1]
    by_cases l : x.f1 < y.f1
    · rw [if_pos l, decide_eq_true l]; rfl
    · rw [if_neg l, decide_eq_false l]; rfl
theorem lt64_irrefl (x : S64) : lt64 x x = false := by
  unfold lt64 dAhead
  rw [if_pos rfl, if_pos rfl]
  rcases cb_cases x.f2.data.toList x.f2.data.toList with ⟨_, _, h, h2⟩ | ⟨_, h, _⟩ | ⟨_, h, _⟩
  · exact absurd rfl h2
  · exact h
  · exact h
theorem lt64_tri (x y : S64) : lt64 x y = true ∨ x = y ∨ lt64 y x = true := by
  unfold lt64 dAhead
  by_cases e1 : x.f1 = y.f1
  · rw [if_pos e1, if_pos e1.symm]
    by_cases e0 : x.f0 = y.f0
    · rw [if_pos e0, if_pos e0.symm]
      rcases cb_cases x.f2.data.toList y.f2.data.toList with ⟨_, h, _⟩ | ⟨_, _, _, h⟩ | ⟨_, _, h, _⟩
      · exact .inl h
      · exact .inr (.inl (s64_ext e0 e1 (by rw [ByteArray.toList_eq, ByteArray.toList_eq]; exact h)))
      · exact .inr (.inr h)
    · rw [if_neg e0, if_neg (fun h => e0 h.symm)]
      by_cases l : x.f0 < y.f0
      · exact .inl (decide_eq_true l)
      · exact .inr (.inr (decide_eq_true (by omega)))
  · rw [if_neg e1, if_neg (fun h => e1 h.symm)]
    by_cases l : x.f1 < y.f1
    · exact .inl (decide_eq_true l)
    · exact .inr (.inr (decide_eq_true (by omega)))
theorem bytes_trans {a b c : List UInt8} (h1 : Op.bytesLess a b = true) (h2 : Op.bytesLess b c = true) : Op.bytesLess a c = true := by
  rw [bytesLess_eq] at *
  exact decide_eq_true (List.lt_trans (of_decide_eq_true h1) (of_decide_eq_true h2))
theorem lt64_trans {x y z : S64} (h1 : lt64 x y = true) (h2 : lt64 y z = true) : lt64 x z = true := by
  unfold lt64 dAhead at *
  by_cases a1 : x.f1 = y.f1
  · by_cases b1 : y.f1 = z.f1
    · rw [if_pos a1] at h1
      rw [if_pos b1] at h2
      rw [if_pos (a1.trans b1)]
      by_cases a0 : x.f0 = y.f0
      · by_cases b0 : y.f0 = z.f0
        · rw [if_pos a0] at h1
          rw [if_pos b0] at h2
          rw [if_pos (a0.trans b0)]
          exact bytes_trans h1 h2
        · rw [if_neg b0] at h2
          have := of_decide_eq_true h2
          rw [if_neg (by omega)]
          exact decide_eq_true (by omega)
      · rw [if_neg a0] at h1
        have h1' := of_decide_eq_true h1
        by_cases b0 : y.f0 = z.f0
        · rw [if_neg (by omega)]
          exact decide_eq_true (by omega)
        · rw [if_neg b0] at h2
          have h2' := of_decide_eq_true h2
          rw [if_neg (by omega)]
          exact decide_eq_true (by omega)
    · rw [if_neg b1] at h2
      have h2' := of_decide_eq_true h2
      rw [if_neg (by omega)]
      exact decide_eq_true (by omega)
  · rw [if_neg a1] at h1
    have h1' := of_decide_eq_true h1
    by_cases b1 : y.f1 = z.f1
    · rw [if_neg (by omega)]
      exact decide_eq_true (by omega)
    · rw [if_neg b1] at h2
      have h2' := of_decide_eq_true h2
      rw [if_neg (by omega)]
      exact decide_eq_true (by omega)
theorem swoD : SWO (ltOf cmpD) where
  irrefl x := by rw [ltOf_cmpD]; exact lt64_irrefl x
  trans x y z h1 h2 := by rw [ltOf_cmpD] at *; exact lt64_trans h1 h2
  ntrans x y z h1 h2 := by
    rw [ltOf_cmpD] at *
    cases h : lt64 x z with
    | false => rfl
    | true =>
      rcases lt64_tri x y with h3 | h3 | h3
      · rw [h3] at h1; cases h1
      · subst h3; rw [h] at h2; cases h2
      · rw [lt64_trans h3 h] at h2; cases h2
theorem totalD : ∀ x y, (ltOf cmpD) x y = false → (ltOf cmpD) y x = false → x = y := by
  intro x y h1 h2
  rw [ltOf_cmpD] at *
  rcases lt64_tri x y with h3 | h3 | h3
  · rw [h3] at h1; cases h1
  · exact h3
  · rw [h3] at h2; cases h2
theorem cmpLaysD (blk off size : Nat) (w : World) : CmpLays Tryz.prog 79 #[] enc64 3 cmpD blk off size w := fun m os dk _ x y =>
  (compare_grows 4 x.f0 x.f1 x.f2 y.f0 y.f1 y.f2 (cmpD x y) (sortWorldK enc64 3 w blk off m dk os) (compare_eq 0 ..)).mono fun _ _ ⟨he, hb, hd⟩ => ⟨he, grow_of hb hd⟩
def F (l : List S64) : List Value := (flatK enc64 3 l.toArray).toList
theorem F_len (l : List S64) : (F l).length = l.length * 3 := by simp [F]
theorem F_get (l : List S64) (j : Nat) (h : j < l.length * 3) : (F l)[j]? = some ((enc64 l.toArray[j / 3]!)[j % 3]!) := by
  have hl : j < (F l).length := by rw [F_len]; exact h
  rw [List.getElem?_eq_getElem hl]
  congr 1
  have e := flat_get l.toArray j (by simpa using h)
  rw [getElem!_pos (flatK enc64 3 l.toArray) j (by simpa using h)] at e
  rw [← e]
  simp [F]
theorem get_of (l : List S64) (j : Nat) (x : S64) (h : l[j]? = some x) : l.toArray[j]! = x := by
  rw [Array.getElem!_eq_getD, Array.getD_eq_getD_getElem?, List.getElem?_toArray, h]
  rfl
theorem enc_get (x : S64) (i : Nat) (h : i < 3) : (enc64 x)[i]? = some ((enc64 x)[i]!) := by
  match i, h with
  | 0, _ => rfl
  | 1, _ => rfl
  | 2, _ => rfl
theorem F_reps (R : S64 → List Value → Prop) (hR : ∀ x, R x (enc64 x)) (l : List S64) : Reps R 3 l (F l) := by
  refine ⟨F_len l, fun j x hx => ?_⟩
  have hj : j < l.length := (List.getElem?_eq_some_iff.1 hx).1
  have e : ((F l).drop (j * 3)).take 3 = enc64 x := by
    apply List.ext_getElem?
    intro i
    by_cases h : i < 3
    · rw [List.getElem?_take, if_pos h, List.getElem?_drop, F_get l _ (by omega), show (j * 3 + i) / 3 = j from by omega, show (j * 3 + i) % 3 = i from by omega, get_of l j x hx, enc_get x i h]
    · rw [List.getElem?_take, if_neg h, List.getElem?_eq_none (by rw [k3]; omega)]
  rw [e]
  exact hR x
theorem cell_of_block {w : World} {g : Nat} {cur : Array Value} {t : TypeId} {fr : Nat × Nat} (hb : w.heap[g]? = some (.cells cur t fr)) (j : Nat) : w.cell? ⟨g, j, none⟩ = cur[j]? := by
  unfold World.cell?
  rw [hb]
  rfl
theorem holds_of_own {w : World} {base g n cap : Nat} {l : List S64} (h : w.ownsRow base 64 3 (.slice (some ⟨g, 0, none⟩) n cap) n (F l)) (hl : l.length = n) : HoldsK enc64 3 w g 0 l.toArray ∧ ∃ cur, w.heap[g]? = some (.cells cur 64 (0, 0)) ∧ base ≤ g ∧ n ≤ cap ∧ cap ≤ maxLen ∧ cur.size = cap * 3 := by
  rcases h.2 with ⟨h1, _⟩ | ⟨g', cap', cur, h1, h2, h3, h4, h5, h6, h7⟩
  · cases h1
  · injection h1 with h1 _ hc
    injection h1 with h1
    injection h1 with h1
    subst h1; subst hc
    refine ⟨fun j hj => ?_, cur, h3, h2, h4, h5, h6⟩
    have hj' : j < n * 3 := by rw [size_flatK] at hj; simpa [hl] using hj
    constructor
    · rw [Nat.zero_add, cell_of_block h3]
      have e : cur[j]? = (F l)[j]? := by
        rw [← h7, List.getElem?_take, if_pos hj', Array.getElem?_toList]
      rw [e, F_get l j (by omega), flat_get l.toArray j (by simp; omega)]
      rfl
    · unfold World.frozen?
      rw [h3]
      simp
theorem own_of_holds {w : World} {base g n cap m : Nat} {d : Array S64} {cur : Array Value} (hb : w.heap[g]? = some (.cells cur 64 (0, 0))) (hg : base ≤ g) (hn : n ≤ cap) (hc : cap ≤ maxLen) (hs : cur.size = cap * 3) (hH : HoldsK enc64 3 w g 0 d) (hd : d.size = n) (hm : m ≤ n) :
    w.ownsRow base 64 3 (.slice (some ⟨g, 0, none⟩) m cap) m (F (d.toList.take m)) := by
  have hl : (d.toList.take m).length = m := by rw [List.length_take, Array.length_toList]; omega
  refine ⟨by rw [F_len, hl], .inr ⟨g, cap, cur, rfl, hg, hb, by omega, hc, hs, ?_⟩⟩
  apply List.ext_getElem?
  intro j
  by_cases h : j < m * 3
  · have h1 := (hH j (by rw [size_flatK]; omega)).1
    rw [Nat.zero_add, cell_of_block hb, flat_get d j (by omega)] at h1
    rw [List.getElem?_take, if_pos h, Array.getElem?_toList, h1, F_get _ j (by omega)]
    have e : (d.toList.take m).toArray[j / 3]! = d[j / 3]! := by
      refine get_of _ _ _ ?_
      rw [List.getElem?_take, if_pos (by omega), Array.getElem?_toList, getElem!_pos d (j / 3) (by omega)]
      exact Array.getElem?_eq_getElem _
    rw [e]
    rfl
  · rw [List.getElem?_take, if_neg h, List.getElem?_eq_none (by rw [F_len]; omega)]
theorem put_block {w : World} {g : Nat} {cur : Array Value} (hb : w.heap[g]? = some (.cells cur 64 (0, 0))) (q : Nat) (d : Array S64) : ∃ cur', (putRowK enc64 3 (Sort.ahead w q) g 0 d).heap[g]? = some (.cells cur' 64 (0, 0)) ∧ cur'.size = cur.size := by
  refine ⟨putCells id 0 (flatK enc64 3 d) cur, ?_, by simp [putCells]⟩
  show (w.heap.modify g (onCells (putCells id 0 (flatK enc64 3 d))))[g]? = _
  rw [Array.getElem?_modify, if_pos rfl, hb]
  rfl
theorem put_below {B : Nat} {w0 w : World} {g : Nat} (h : Below B w0 w) (hg : B ≤ g) (q : Nat) (d : Array S64) : Below B w0 (putRowK enc64 3 (Sort.ahead w q) g 0 d) := by
  refine ⟨h.os, h.tape, h.output, ?_, fun k hk => ?_⟩
  · have := h.size
    show w0.heap.size ≤ (w.heap.modify g (onCells (putCells id 0 (flatK enc64 3 d)))).size
    rw [Array.size_modify]
    exact this
  · show (w.heap.modify g (onCells (putCells id 0 (flatK enc64 3 d))))[k]? = _
    rw [Array.getElem?_modify, if_neg (by omega)]
    exact h.block k hk
theorem sort_block {w : World} {g : Nat} {cur : Array Value} (hb : w.heap[g]? = some (.cells cur 64 (0, 0))) (n : Nat) (d : Array S64) (os : Array Obj) : ∃ cur', (sortWorldK enc64 3 w g 0 n d os).heap[g]? = some (.cells cur' 64 (0, 0)) ∧ cur'.size = cur.size := by
  obtain ⟨cur', h1, h2⟩ := put_block hb n d
  refine ⟨cur', ?_, h2⟩
  show ((putRowK enc64 3 (Sort.ahead w n) g 0 d).heap ++ os)[g]? = _
  have hlt : g < (putRowK enc64 3 (Sort.ahead w n) g 0 d).heap.size := by
    apply Decidable.byContradiction
    intro hn
    rw [Array.getElem?_eq_none (by omega)] at h1
    cases h1
  rw [Array.getElem?_append_left hlt]
  exact h1
theorem sort_below {B : Nat} {w0 w : World} {g : Nat} (h : Below B w0 w) (hg : B ≤ g) (hw : B ≤ w.heap.size) (n : Nat) (d : Array S64) (os : Array Obj) : Below B w0 (sortWorldK enc64 3 w g 0 n d os) := by
  have h1 := put_below h hg n d
  have hsz : (putRowK enc64 3 (Sort.ahead w n) g 0 d).heap.size = w.heap.size := by
    show (w.heap.modify g (onCells (putCells id 0 (flatK enc64 3 d)))).size = _
    rw [Array.size_modify]
  refine ⟨h1.os, h1.tape, h1.output, ?_, fun k hk => ?_⟩
  · show w0.heap.size ≤ ((putRowK enc64 3 (Sort.ahead w n) g 0 d).heap ++ os).size
    have := h1.size
    rw [Array.size_append]
    omega
  · show ((putRowK enc64 3 (Sort.ahead w n) g 0 d).heap ++ os)[k]? = _
    rw [Array.getElem?_append_left (by omega)]
    exact h1.block k hk
def ms (l : List S64) : List S64 := l.mergeSort fun x y => !(ltOf cmpD) y x
def sortD (l : List S64) : List S64 := compactUpTo (ms l).toArray (ms l).length
theorem ms_len (l : List S64) : (ms l).length = l.length := List.length_mergeSort _
theorem compact_le (d : Array S64) : (compactUpTo d d.size).length ≤ d.size := by
  unfold compactUpTo
  rw [List.length_map]
  refine Nat.le_trans (List.length_filter_le _ _) ?_
  simp
theorem own_some {w1 : World} {base n : Nat} {v' : Value} {xs : List Value} (h : w1.ownsRow base 64 3 v' n xs) (hnn : v' ≠ .slice none 0 0) : ∃ g cap, v' = .slice (some ⟨g, 0, none⟩) n cap := by
  rcases h.2 with ⟨h1, _⟩ | ⟨g, cap, _, h1, _⟩
  · exact absurd h1 hnn
  · exact ⟨g, cap, h1⟩
structure ST (base : Nat) (W : World) (g n cap : Nat) (xs : List S64) : Prop where
  blk : ∃ cur, W.heap[g]? = some (.cells cur 64 (0, 0)) ∧ cur.size = cap * 3
  hg : base ≤ g
  hn : n ≤ cap
  hc : cap ≤ maxLen
  len : xs.length = n
  holds : HoldsK enc64 3 W g 0 xs.toArray
  hb : base ≤ W.heap.size
theorem blk_lt' {w : World} {g : Nat} {o : Obj} (h : w.heap[g]? = some o) : g < w.heap.size := by
  apply Decidable.byContradiction
  intro hn
  rw [Array.getElem?_eq_none (by omega)] at h
  cases h
theorem sort_step {w1 : World} {base g n cap : Nat} {l : List S64} (h : w1.ownsRow base 64 3 (.slice (some ⟨g, 0, none⟩) n cap) n (F l)) (hl : l.length = n) (hlen : n ≤ 1000000000) :
    Calls Tryz.prog 78 #[.slice (some ⟨g, 0, none⟩) n cap, .func (.func 79) #[] #[]] w1 fun e w2 => e = .returned (.tuple #[]) ∧ ST base w2 g n cap (ms l) ∧ Below base w1 w2 := by
  obtain ⟨hH, cur, hb, hg, hn, hc, hs⟩ := holds_of_own h hl
  have eg : ∀ args w, (callFunc 79 args).run Tryz.prog w = .ok (.enter 79 args) w := enters_of Tryz.func79 (by kernel_rfl) rfl
  have hlt := blk_lt' hb
  have hsz : l.toArray.size = n := by simpa using hl
  by_cases h0 : n = 0
  · subst h0
    obtain rfl : l = [] := List.length_eq_zero_iff.1 hl
    refine (AnyF.slices_SortFunc_none Tryz.sortD (some ⟨g, 0, none⟩) cap (.func (.func 79) #[] #[]) w1).mono ?_
    rintro e w' ⟨rfl, rfl⟩
    refine ⟨rfl, ⟨⟨cur, hb, hs⟩, hg, hn, hc, by rw [ms_len]; rfl, ?_, by omega⟩, Below.refl _ _⟩
    intro j hj
    have : (ms []).toArray.size = 0 := by simp [ms_len]
    rw [size_flatK, this] at hj
    omega
  · have hT := AnyQ.slices_SortFunc_total Tryz.sortD 3 Tryz.isAgg64 Tryz.sizeOf64 enc64 k3 (fun x v hv => by
        have hv' : v = .int .i64 x.f0 ∨ v = .int .i64 x.f1 ∨ v = .string x.f2 := by simpa [enc64] using hv
        rcases hv' with rfl | rfl | rfl <;> rfl) cmpD swoD 79 #[] g 0 cap l.toArray w1 eg (cmpLaysD g 0 _ w1) hH hlt (by rw [hsz]; omega) totalD
    rw [hsz] at hT
    refine hT.mono ?_
    rintro e w' ⟨rfl, q, os, rfl⟩
    obtain ⟨cur', hb', hs'⟩ := sort_block hb q ((l.toArray.toList.mergeSort fun x y => !(ltOf cmpD) y x).toArray) os
    have hms : (l.toArray.toList.mergeSort fun x y => !(ltOf cmpD) y x) = ms l := rfl
    rw [hms] at hb' ⊢
    have hbel := sort_below (Below.refl base w1) hg (by omega) q (ms l).toArray os
    exact ⟨rfl, ⟨⟨cur', hb', hs'.trans hs⟩, hg, hn, hc, by rw [ms_len, hl], holdsK_sortWorldK_c enc64 3 w1 g 0 l.toArray (ms l).toArray q os hH hlt (by simp [ms_len]), by have := hbel.size; omega⟩, hbel⟩
theorem compact_step {w2 : World} {base g n cap : Nat} {l : List S64} (h : ST base w2 g n cap (ms l)) (hlen : n ≤ 1000000000) :
    Calls Tryz.prog 80 #[.slice (some ⟨g, 0, none⟩) n cap] w2 fun e w3 => ∃ m, e = .returned (.slice (some ⟨g, 0, none⟩) m cap) ∧ Kd.R k64 64 w3 base (fun _ => True) (.slice (some ⟨g, 0, none⟩) m cap) (sortD l) ∧ Below base w2 w3 := by
  obtain ⟨⟨cur, hb, hs⟩, hg, hn, hc, hlen2, hH, hbs⟩ := h
  have hsz : (ms l).toArray.size = n := by simpa using hlen2
  have hW := compact_walk g cap (ms l).toArray w2 hH (by omega) (by omega)
  rw [hsz] at hW
  refine hW.mono ?_
  rintro e w' ⟨rfl, q, rfl⟩
  have hle : (compactUpTo (ms l).toArray n).length ≤ n := by have := compact_le (ms l).toArray; rw [hsz] at this; exact this
  obtain ⟨cur', hb', hs'⟩ := put_block hb q (compactUpTo (ms l).toArray n ++ List.replicate (n - (compactUpTo (ms l).toArray n).length) z64).toArray
  have hdsz : (compactUpTo (ms l).toArray n ++ List.replicate (n - (compactUpTo (ms l).toArray n).length) z64).toArray.size = n := by simp; omega
  have hH' := holdsK_putRowK enc64 3 (Sort.ahead w2 q) g 0 (ms l).toArray _ (holdsK_ahead enc64 3 w2 q g 0 _ hH) (hdsz.trans hsz.symm)
  have hown := own_of_holds hb' hg hn hc (hs'.trans hs) hH' hdsz hle
  have hsd : sortD l = compactUpTo (ms l).toArray n := by unfold sortD; rw [hlen2]
  rw [List.toList_toArray, List.take_left] at hown
  refine ⟨_, rfl, ⟨fun _ _ => trivial, F (sortD l), ?_, F_reps _ (fun x => k64_mkM _ _ _ x) _⟩, put_below (Below.refl base w2) hg q _⟩
  rw [hsd]
  exact hown
def merge_Sort.f (l : List S64) : Option (List S64) := if l.length ≤ 1000000000 then some (sortD l) else none
set_option maxHeartbeats 4000000 in
set_option maxRecDepth 100000 in
theorem sort_some (ad : Addr) (c0 : Nat) (l : List S64) (w : World) (hlen : l.length ≤ 1000000000) (hc : ∀ j u, (F l)[j]? = some u → w.cell? (ad.add j) = some u) :
    Calls Tryz.prog 41 #[.slice (some ad) l.length c0] w fun e w' => ∃ v0_, e = .returned v0_ ∧ Kd.R k64 64 w' w.heap.size (fun _ => True) v0_ (sortD l) ∧ Below w.heap.size w w' := by
  have hclone := clone_walk ad l.length c0 (F l) w (F_len l) (by simp only [maxLen]; omega) (by omega) hc (fun u hu => by
    obtain ⟨j, hj, rfl⟩ := List.getElem_of_mem hu
    have hj' : j < l.length * 3 := by rw [F_len] at hj; exact hj
    have e := F_get l j hj'
    rw [List.getElem?_eq_getElem hj] at e
    injection e with e
    rw [e]
    have h3 : j % 3 < 3 := Nat.mod_lt _ (by decide)
    generalize j % 3 = m at h3
    match m, h3 with
    | 0, _ => rfl
    | 1, _ => rfl
    | 2, _ => rfl)
  have HC := Aside0.mk hclone
  clear hclone hc
  have eg : ∀ args w, (callFunc 79 args).run Tryz.prog w = .ok (.enter 79 args) w := enters_of Tryz.func79 (by kernel_rfl) rfl
  obtain ⟨n, hn⟩ : ∃ n, n = l.length := ⟨_, rfl⟩
  rw [← hn] at HC hlen ⊢
  have HN := Aside0.mk hn
  clear hn
  go_enter Tryz.func41, Tryz.ntmps41
  go_wp2_with (first
    | (go_at_call 77; refine HC.out.mono ?_; rintro e w1 ⟨v', rfl, hown, hnn, hb1⟩; obtain ⟨g, cap, rfl⟩ := own_some hown hnn; have HO := Aside0.mk hown; have HB := Aside0.mk hb1; clear hown hnn hb1)
    | (go_at_call 78; refine (sort_step HO.out HN.out.symm hlen).mono ?_; rintro e w2 ⟨rfl, hst, hb2⟩; have HST := Aside0.mk hst; have HB2 := Aside0.mk (HB.out.trans hb2); clear hst hb2)
    | (go_at_call 80; refine (compact_step HST.out (by omega)).mono ?_; rintro e w3 ⟨m, rfl, hR, hb3⟩; have HR := Aside0.mk hR; have HB3 := Aside0.mk (HB2.out.trans hb3); clear hR hb3))
  go_ret
  exact ⟨_, rfl, HR.out, HB3.out⟩
theorem sortD_nil : sortD [] = [] := by
  unfold sortD
  rw [show (ms []).length = 0 from ms_len []]
  rfl
set_option maxHeartbeats 4000000 in
set_option maxRecDepth 100000 in
theorem sort_none (c0 : Nat) (w : World) : Calls Tryz.prog 41 #[.slice none 0 c0] w fun e w' => ∃ v0_, e = .returned v0_ ∧ Kd.R k64 64 w' w.heap.size (fun _ => True) v0_ (sortD []) ∧ Below w.heap.size w w' := by
  have hsn : ∀ W, Calls Tryz.prog 78 #[.slice none 0 0, .func (.func 79) #[] #[]] W fun e w2 => e = .returned (.tuple #[]) ∧ w2 = W := fun W => AnyF.slices_SortFunc_none Tryz.sortD none 0 (.func (.func 79) #[] #[]) W
  go_enter Tryz.func41, Tryz.ntmps41
  go_wp2_with (first
    | (go_at_call 77; refine (clone_nil _ _ _).mono ?_; rintro e w1 ⟨rfl, rfl⟩)
    | (go_at_call 78; refine (hsn _).mono ?_; rintro e w1 ⟨rfl, rfl⟩)
    | (go_at_call 80; refine (compact_few _ _ _ (by omega) _).mono ?_; rintro e w1 ⟨rfl, rfl⟩))
  go_ret
  refine ⟨_, rfl, ?_, Below.refl _ _⟩
  rw [sortD_nil]
  exact Kd.R_nil _ _ _ _ _
theorem merge_Sort.calls (A0 : Option Addr) (c0 : Nat) (l0 : List S64) (r : List S64) (w : World) (hr0 : Kd.C k64 w A0 l0.length l0) (hc0 : l0.length ≤ c0) (h : merge_Sort.f l0 = some r) :
    Calls Tryz.prog 41 #[.slice A0 l0.length c0] w fun e w' => ∃ v0_ : Value, e = .returned v0_ ∧ Kd.R k64 64 w' w.heap.size (fun _ => True) v0_ r ∧ Below w.heap.size w w' := by
  have _ := hc0
  unfold merge_Sort.f at h
  split at h
  case isFalse => cases h
  rename_i hlen
  obtain rfl := Option.some.inj h
  cases A0 with
  | none =>
    have h0 : l0 = [] := by
      apply Classical.byContradiction
      intro hne
      obtain ⟨ad, he, _⟩ := hr0.2.2 (List.length_pos_iff.2 hne)
      cases he
    subst h0
    exact sort_none c0 w
  | some ad =>
    refine sort_some ad c0 l0 w hlen (fun j u hu => ?_)
    have hj : j < l0.length * 3 := by
      have := (List.getElem?_eq_some_iff.1 hu).1
      rw [F_len] at this
      exact this
    obtain ⟨ad', he, hcell⟩ := hr0.2.2 (by omega)
    cases he
    have hx : l0[j / 3]? = some l0[j / 3] := List.getElem?_eq_getElem (by omega)
    obtain ⟨c, hcl, hK, hcc⟩ := hcell (j / 3) _ hx
    have hc2 : c = enc64 l0[j / 3] := k64_open hK
    rw [hc2] at hcc
    have h3 : j % 3 < 3 := Nat.mod_lt _ (by decide)
    have e := hcc (j % 3) _ (enc_get _ _ h3)
    have e2 : j / 3 * 3 + j % 3 = j := by omega
    have e3 : k64.sz = 3 := rfl
    rw [e3, e2] at e
    rw [F_get l0 j hj, get_of l0 (j / 3) _ hx] at hu
    cases hu
    exact e
end Go.Proofs.YtomdidopflebjaaGreatDoor.PM
namespace Go.Proofs.YtomdidopflebjaaGreatDoor.PM
open Go.RowKit Go.Proofs.YtomdidopflebjaaGreatDoorW.PrintWords Go.Proofs.YtomdidopflebjaaGreatDoorW.PrintLast Go.Proofs.YtomdidopflebjaaGreatDoorW.PrintMore Go.Proofs.YtomdidopflebjaaGreatDoor.Glob
attribute [local go_sem] max2_int min2_int max_two min_two max_three min_three max_four min_four   -- for this text's walks alone
set_option linter.unusedVariables false
set_option linter.unusedSimpArgs false
attribute [local go_sem high] eqA64
def outline_Check.l0 : Nat → List (S113) → List (S64) → Int → List (S41) → Int → Int → Option ((List (S64)))
  | 0, _, _, _, _, _, _ => none
  | k + 1, x0, x3, x4, x12, x13, x14 => if x14 < x13 then (if 0 ≤ x14 then (if x14 < (x12.length : Int) then (if ((rd_T41 x12 x14).f1) > (wrap64 (x4 + 1)) then ((dom_Tree_Get.f x0 ((rd_T41 x12 x14).f0)).bind fun bt201 => ((dom_Tree_Path.f k x0 ((rd_T41 x12 x14).f0)).bind fun bt210 => ((place_Path.f bt210.1).bind fun t214 => (if x3.length < 4398046511104 then (outline_Check.l0 k x0 (x3 ++ [(⟨55, bt201.2.1, t214⟩ : S64)]) ((rd_T41 x12 x14).f1) x12 x13 (wrap64 (x14 + 1))) else (none))))) else (outline_Check.l0 k x0 x3 ((rd_T41 x12 x14).f1) x12 x13 (wrap64 (x14 + 1)))) else (none)) else (none)) else ((merge_Sort.f x3).bind fun t196 => (some t196))
def outline_Check.f (k : Nat) (l0 : List (S113)) : Option ((List (S64))) := (outline_Headings.f k l0).bind fun t193 => (outline_Check.l0 k l0 ([] : List (S64)) 0 t193 (t193.length : Int) 0)
theorem outline_Check.mono_l : ∀ k, (∀ y0 y1 y2 y3 y4 y5, LeO (outline_Check.l0 k y0 y1 y2 y3 y4 y5) (outline_Check.l0 (k + 1) y0 y1 y2 y3 y4 y5))
  | 0 => fun _ _ _ _ _ _ r h => by simp [outline_Check.l0] at h
  | k + 1 => by
    have ih0 := outline_Check.mono_l k
    · intro y0 y1 y2 y3 y4 y5
      unfold outline_Check.l0
      repeat' first
      | (with_reducible exact ih0 _ _ _ _ _ _)
      | (with_reducible exact dom_Tree_Path.mono _ _ _)
      | (with_reducible exact outline_Headings.mono _ _)
      | (with_reducible exact LeO.refl _)
      | (with_reducible exact LeO.none _)
      | (with_reducible refine LeO.ite ?_ ?_)
      | (with_reducible refine LeO.bind ?_ (fun _ => ?_))
      | exact ih0 _ _ _ _ _ _
      | exact dom_Tree_Path.mono _ _ _
      | exact outline_Headings.mono _ _
      | exact LeO.none _
      | refine LeO.ite ?_ ?_
      | refine LeO.bind ?_ (fun _ => ?_)
theorem outline_Check.mono : ∀ a0 k, LeO (outline_Check.f k a0) (outline_Check.f (k + 1) a0) := by
  intro a0 k
  have ih0 := outline_Check.mono_l k
  unfold outline_Check.f
  repeat' first
      | (with_reducible exact ih0 _ _ _ _ _ _)
      | (with_reducible exact dom_Tree_Path.mono _ _ _)
      | (with_reducible exact outline_Headings.mono _ _)
      | (with_reducible exact LeO.refl _)
      | (with_reducible exact LeO.none _)
      | (with_reducible refine LeO.ite ?_ ?_)
      | (with_reducible refine LeO.bind ?_ (fun _ => ?_))
      | exact ih0 _ _ _ _ _ _
      | exact dom_Tree_Path.mono _ _ _
      | exact outline_Headings.mono _ _
      | exact LeO.none _
      | refine LeO.ite ?_ ?_
      | refine LeO.bind ?_ (fun _ => ?_)
def outline_Check.T9 : Bool × List (List Nat × List Nat) := (true, [([], []), ([], []), ([1], [1]), ([], []), ([3], [3]), ([2, 4], [2, 4]), ([5], [5]), ([0, 6, 4], [0, 6]), ([7, 7, 0, 1, 2, 3, 4, 5, 6, 7], [0, 7])])
def outline_Check.B9 : List Nat := [0, 0, 2, 0, 8, 30, 62, 127, 255]
theorem outline_Check.tab9 : rtab .any (opsOf Tryz.f14 9) = outline_Check.T9 := by kernel_rfl
theorem outline_Check.bits9 : waitsOk outline_Check.T9.2 outline_Check.B9 = true := by kernel_rfl
set_option maxHeartbeats 8000000 in
set_option maxRecDepth 100000 in
theorem outline_Check.calls (k : Nat) (A0 : Option Addr) (c0 : Nat) (l0 : List (S113)) (r : List (S64)) (w : World) (hr0 : Kd.C k113 w A0 l0.length l0) (hc0 : l0.length ≤ c0 ∧ (l0 = [] → A0 = none)) (hG : GW w) (h : outline_Check.f k l0 = some r) :
    Calls Tryz.prog 14 #[.pointer A0] w fun e w' => ∃ v0_ : Value, e = .returned (v0_) ∧ Kd.R k64 64 w' w.heap.size (fun _ => True) v0_ r ∧ Below w.heap.size w w' := by
  have HG := Aside0.mk hG
  clear hG
  have hu41 := Tryz.underlying41
  have hu59 := Tryz.underlying59
  have hu64 := Tryz.underlying64
  have HR0 := Aside0.mk hr0
  have HC0 := Aside0.mk hc0
  clear hr0 hc0
  have HB := Aside0.mk (Below.refl w.heap.size w)
  have H : ((outline_Headings.f k l0).bind fun t193 => (outline_Check.l0 k l0 ([] : List (S64)) 0 t193 (t193.length : Int) 0)) = some r := h
  clear h
  replace H := Option.bind_eq_some_iff.mp H
  obtain ⟨t193, A20, H⟩ := H
  replace H : (outline_Check.l0 k l0 ([] : List (S64)) 0 t193 (t193.length : Int) 0) = some r := H
  have A2 := Aside0.mk A20
  clear A20
  have H' := Aside0.mk H
  clear H
  go_enter Tryz.func14, Tryz.ntmps14
  go_wp2_with (first | ((with_reducible refine gate_callee (f := 9) rfl ?_); refine goesL_ (some 12) rfl rfl Tryz.func9 (by kernel_rfl) rfl #[.pointer A0] rfl (by (try simp only [List.map_toArray, List.map_cons, List.map_nil]); first | done | rfl | (simp only [List.length_drop, List.length_take]; rfl)) ?_; (with_reducible refine (outline_Headings.calls k _ l0.length l0 t193 _ ?side1 ?side2 A2.out).mono ?_); (case side1 => repeat (first | exact HR0.out | (with_reducible refine Kd.C_alloc ?_ _) | (with_reducible refine Kd.C_drewN ?_ _) | (with_reducible refine Kd.C_drew ?_))); (case side2 => exact ⟨Nat.le_refl _, HC0.out.2⟩); rintro e w3 ⟨v194, rfl, ho0, hb⟩; refine ⟨_, rfl, ?_⟩; have n0_ := Aside0.mk (Kd.R_lower ho0 (below_size (by repeat (first | (with_reducible first | exact HB.out | apply below_alloc | apply pw_below_drewN | apply below_drew1) | exact HB.out)))); have n1_ := Aside0.mk (below_step (by repeat (first | (with_reducible first | exact HB.out | apply below_alloc | apply pw_below_drewN | apply below_drew1) | exact HB.out)) hb); clear HB; have HO195 := n0_; have HB := n1_; clear n0_ n1_; (try clear hb); (try clear hb2); (try clear hk); (try clear hi); (try clear ho0); obtain ⟨Ao4, co4, eo4⟩ := Kd.R_slice HO195.out; subst eo4))
  go_loopg [3, 4, 14] k (fun kq v3 v4 v14 w' => ∃ (x3_1 : List (S64)) (x4_1 : Int) (x14_1 : Int), v4 = .int .i64 x4_1 ∧ v14 = .int .i64 x14_1 ∧ Aside0 (outline_Check.l0 kq l0 x3_1 x4_1 t193 (t193.length : Int) x14_1 = some r) ∧ Aside0 (kq ≤ k) ∧ Aside0 (Kd.R k64 64 w' w.heap.size (fun _ => True) v3 x3_1) ∧ Aside0 (Kd.R k41 41 w' w.heap.size (fun _ => True) (.slice Ao4 t193.length co4) t193) ∧ Aside0 (Below w.heap.size w w'))
  case atStart => exact ⟨(([] : List (S64))), (0), (0), (by first | rfl | (simp; done) | (simp [*]; done)), (by first | rfl | (simp; done) | (simp [*]; done)), H', ⟨Nat.le_refl _⟩, ⟨by first | exact Kd.R_nil _ _ _ _ _ | exact Kd.N_nil _ _ _ _ _ | exact Kd.V_nil _ _ _ _ _ | exact Kd.Q_nil _ _ _ _ _ | exact Kd.S_nil _ _ _ _ _⟩, ⟨by (with_reducible repeat (first | apply Kd.R_alloc | apply Kd.R_drewN | apply Kd.R_drew)); exact HO195.out⟩, ⟨by repeat (first | (with_reducible first | exact HB.out | apply below_alloc | apply pw_below_drewN | apply below_drew1) | exact HB.out)⟩⟩
  case round =>
    clear H'
    try clear c1
    try clear p2
    obtain ⟨x3_1, x4_1, x14_1, rfl, rfl, HA, HK1, HO_3, HO_12, HB⟩ := hrel
    cases gk with
    | zero => exact absurd HA.out (by simp [outline_Check.l0])
    | succ k1 =>
      have H := HA.out
      clear HA
      simp only [outline_Check.l0] at H
      by_cases c5 : x14_1 < (t193.length : Int)
      · rw [if_pos c5] at H
        have c5b0 : decide (x14_1 < (t193.length : Int)) = true := decide_eq_true c5
        clear c5
        by_cases c6 : 0 ≤ x14_1
        · rw [if_pos c6] at H
          have c6b0 : decide (0 ≤ x14_1) = true := decide_eq_true c6
          clear c6
          by_cases c7 : x14_1 < (t193.length : Int)
          · rw [if_pos c7] at H
            have c7b0 : decide (x14_1 < (t193.length : Int)) = true := decide_eq_true c7
            clear c7
            by_cases c8 : ((rd_T41 t193 x14_1).f1) > (wrap64 (x4_1 + 1))
            · rw [if_pos c8] at H
              have c8b0 : decide ((wrap64 (x4_1 + 1)) < ((rd_T41 t193 x14_1).f1)) = true := decide_eq_true c8
              clear c8
              replace H := Option.bind_eq_some_iff.mp H
              obtain ⟨⟨t201, t202, t203, t204, t205, t208⟩, A90, H⟩ := H
              replace H : ((dom_Tree_Path.f k1 l0 ((rd_T41 t193 x14_1).f0)).bind fun bt210 => ((place_Path.f bt210.1).bind fun t214 => (if x3_1.length < 4398046511104 then (outline_Check.l0 k1 l0 (x3_1 ++ [(⟨55, t202, t214⟩ : S64)]) ((rd_T41 t193 x14_1).f1) t193 (t193.length : Int) (wrap64 (x14_1 + 1))) else (none)))) = some r := H
              have A9 := Aside0.mk A90
              clear A90
              replace H := Option.bind_eq_some_iff.mp H
              obtain ⟨⟨t210, t211⟩, A100, H⟩ := H
              replace H : ((place_Path.f t210).bind fun t214 => (if x3_1.length < 4398046511104 then (outline_Check.l0 k1 l0 (x3_1 ++ [(⟨55, t202, t214⟩ : S64)]) ((rd_T41 t193 x14_1).f1) t193 (t193.length : Int) (wrap64 (x14_1 + 1))) else (none))) = some r := H
              have A10 := Aside0.mk A100
              clear A100
              replace H := Option.bind_eq_some_iff.mp H
              obtain ⟨t214, A110, H⟩ := H
              replace H : (if x3_1.length < 4398046511104 then (outline_Check.l0 k1 l0 (x3_1 ++ [(⟨55, t202, t214⟩ : S64)]) ((rd_T41 t193 x14_1).f1) t193 (t193.length : Int) (wrap64 (x14_1 + 1))) else (none)) = some r := H
              have A11 := Aside0.mk A110
              clear A110
              by_cases c12 : x3_1.length < 4398046511104
              · rw [if_pos c12] at H
                have LMc12 := Aside0.mk c12
                clear c12
                obtain ⟨y215, hy215⟩ : ∃ y_ : List (S64), y_ = (x3_1 ++ [(⟨55, t202, t214⟩ : S64)]) := ⟨_, rfl⟩
                replace H : (outline_Check.l0 k1 l0 y215 ((rd_T41 t193 x14_1).f1) t193 (t193.length : Int) (wrap64 (x14_1 + 1))) = some r := by first | (rw [hy215]; with_reducible exact H) | (have H2_ := (Option.bind_some _ _).symm.trans H; rw [hy215]; with_reducible exact H2_) | (have H2_ := (Option.bind_some _ _).symm.trans H; with_reducible exact H2_) | with_reducible exact H | (rw [hy215]; exact H) | exact H
                have Ny215 := Aside0.mk hy215
                clear hy215
                have H' := Aside0.mk H
                clear H
                have p199 : 0 ≤ (x14_1 : Int) := of_decide_eq_true (by first | (with_reducible assumption) | assumption)
                have q199 : x14_1 < (t193.length : Int) := of_decide_eq_true (by first | (with_reducible assumption) | assumption)
                obtain ⟨ad199, e199, hx199_0, hx199_1, hx199_2⟩ := at_T41 (Kd.R_reads' HO_12.out).2.2 x14_1 p199 q199
                cases e199
                replace p199 := eq_true p199
                replace q199 := eq_true q199
                try go_wp2_with (first | ((with_reducible refine gate_dst (N := 6) rfl ?_); refine box_event ?hg (N := 6) ?hd (cs := #[.int .i64 0, .int .i64 0, .string (⟨#[]⟩ : ByteArray)]) (t := 41) ?hr ?_; (case hd => rfl); (case hg => rfl); (case hr => first | (go_simp; done) | (go_simp; rfl)); intro gb200 hg w13 hbox hb; have n0_ := Aside0.mk (Kd.R_below (by (with_reducible repeat (first | apply Kd.R_alloc | apply Kd.R_drewN | apply Kd.R_drew)); exact HO_3.out) hb); have n1_ := Aside0.mk (Kd.R_below (Kd.R_elderB (by (with_reducible repeat (first | apply Kd.R_alloc | apply Kd.R_drewN | apply Kd.R_drew)); exact HO_12.out) gb200 (Nat.le_of_eq hg.symm)) hb); have n2_ := Aside0.mk (below_step (by repeat (first | (with_reducible first | exact HB.out | apply below_alloc | apply pw_below_drewN | apply below_drew1) | exact HB.out)) hb); have n3_ := Aside0.mk (hbox); have n4_ := Aside0.mk ((by rw [hg]; exact (below_size (by repeat (first | (with_reducible first | exact HB.out | apply below_alloc | apply pw_below_drewN | apply below_drew1) | exact HB.out))) : w.heap.size ≤ gb200)); have n5_ := Aside0.mk ((by rw [hg]; exact (below_size (by repeat (first | (with_reducible first | exact HB.out | apply below_alloc | apply pw_below_drewN | apply below_drew1) | exact HB.out))) : w.heap.size ≤ gb200)); clear HO_3; clear HO_12; clear HB; have HO_3 := n0_; have HO_12 := n1_; have HB := n2_; have BK200 := n3_; have GW200 := n4_; have GE200 := n5_; clear n0_ n1_ n2_ n3_ n4_ n5_; clear hb hbox hg; have hcz14_0 : w13.cell? ⟨gb200, 0, none⟩ = some (.int .i64 0) := (blk_cell BK200.out 0).trans rfl; have hcz14_1 : w13.cell? ⟨gb200, 1, none⟩ = some (.int .i64 0) := (blk_cell BK200.out 1).trans rfl; have hcz14_2 : w13.cell? ⟨gb200, 2, none⟩ = some (.string (⟨#[]⟩ : ByteArray)) := (blk_cell BK200.out 2).trans rfl; have hfz14_0 := blk_frozen BK200.out 0; have hfz14_1 := blk_frozen BK200.out 1; have hfz14_2 := blk_frozen BK200.out 2) | ((with_reducible refine gate_callee (f := 29) rfl ?_); refine goesL_ (some 27) rfl rfl Tryz.func29 (by kernel_rfl) rfl #[.pointer A0, .int .i64 ((rd_T41 t193 x14_1).f0)] rfl (by (try simp only [List.map_toArray, List.map_cons, List.map_nil]); first | done | rfl | (simp only [List.length_drop, List.length_take]; rfl)) ?_; (with_reducible refine (dom_Tree_Get.calls _ l0.length l0 ((rd_T41 t193 x14_1).f0) t201 t202 t203 t204 t205 t208 _ ?side1 ?side2 A9.out).mono ?_); (case side1 => exact Kd.C_below HR0.out (by repeat (first | (with_reducible first | exact HB.out | apply below_alloc | apply pw_below_drewN | apply below_drew1 | refine below_set ?_ GE200.out) | exact HB.out))); (case side2 => exact ⟨Nat.le_refl _, HC0.out.2⟩); rintro e w15 ⟨v206, rfl, ho0, hb⟩; refine ⟨_, rfl, ?_⟩; have n0_ := Aside0.mk (Kd.R_below (by (with_reducible repeat (first | apply Kd.R_alloc | apply Kd.R_drewN | apply Kd.R_drew)); exact (Kd.R_mono (Kd.R_far (p := ⟨gb200, 2, none⟩) (Kd.R_far (p := ⟨gb200, 1, none⟩) (Kd.R_far (p := ⟨gb200, 0, none⟩) (Kd.R_types HO_3.out BK200.out (by decide)) (fun _ hk => hk.2) (.int .i64 ((rd_T41 t193 x14_1).f0))) (fun _ hk => hk.2) (.int .i64 ((rd_T41 t193 x14_1).f1))) (fun _ hk => hk.2) (.string ((rd_T41 t193 x14_1).f2))) (fun _ h_ => h_.1))) hb); have n1_ := Aside0.mk (Kd.R_below (by (with_reducible repeat (first | apply Kd.R_alloc | apply Kd.R_drewN | apply Kd.R_drew)); exact (Kd.R_mono (Kd.R_far (p := ⟨gb200, 2, none⟩) (Kd.R_far (p := ⟨gb200, 1, none⟩) (Kd.R_far (p := ⟨gb200, 0, none⟩) (Kd.R_mono HO_12.out (fun k_ hk => (⟨hk, hk.2⟩ : _ ∧ k_ ≠ gb200))) (fun _ hk => hk.2) (.int .i64 ((rd_T41 t193 x14_1).f0))) (fun _ hk => hk.2) (.int .i64 ((rd_T41 t193 x14_1).f1))) (fun _ hk => hk.2) (.string ((rd_T41 t193 x14_1).f2))) (fun _ h_ => h_.1))) hb); have n2_ := Aside0.mk (Kd.R_lower ho0 (below_size (by repeat (first | (with_reducible first | exact HB.out | apply below_alloc | apply pw_below_drewN | apply below_drew1 | refine below_set ?_ GE200.out) | exact HB.out)))); have n3_ := Aside0.mk (blk_below (g := gb200) (o := .cells #[.int .i64 ((rd_T41 t193 x14_1).f0), .int .i64 ((rd_T41 t193 x14_1).f1), .string ((rd_T41 t193 x14_1).f2)] 41 (0, 0)) (by (with_reducible repeat (first | refine blk_drewN ?_ _ | refine blk_drew ?_ | refine blk_alloc ?_ _)); refine blk_put (cs := #[.int .i64 ((rd_T41 t193 x14_1).f0), .int .i64 ((rd_T41 t193 x14_1).f1), .string (⟨#[]⟩ : ByteArray)]) ?_ 2 _ rfl; (with_reducible repeat (first | refine blk_drewN ?_ _ | refine blk_drew ?_ | refine blk_alloc ?_ _)); refine blk_put (cs := #[.int .i64 ((rd_T41 t193 x14_1).f0), .int .i64 0, .string (⟨#[]⟩ : ByteArray)]) ?_ 1 _ rfl; (with_reducible repeat (first | refine blk_drewN ?_ _ | refine blk_drew ?_ | refine blk_alloc ?_ _)); refine blk_put (cs := #[.int .i64 0, .int .i64 0, .string (⟨#[]⟩ : ByteArray)]) ?_ 0 _ rfl; (with_reducible repeat (first | refine blk_drewN ?_ _ | refine blk_drew ?_ | refine blk_alloc ?_ _)); exact BK200.out) hb); have n4_ := Aside0.mk (below_step (by repeat (first | (with_reducible first | exact HB.out | apply below_alloc | apply pw_below_drewN | apply below_drew1 | refine below_set ?_ GE200.out) | exact HB.out)) hb); clear HO_3; clear HO_12; clear BK200; clear HB; have HO_3 := n0_; have HO_12 := n1_; have HO207 := n2_; have BK200 := n3_; have HB := n4_; clear n0_ n1_ n2_ n3_ n4_; (try clear hb); (try clear hb2); (try clear hk); (try clear hi); (try clear ho0)) | ((with_reducible refine gate_dst (N := 7) rfl ?_); refine box_event ?hg (N := 7) ?hd (cs := #[.int .i64 0, .int .i64 0, .string (⟨#[]⟩ : ByteArray), .string (⟨#[]⟩ : ByteArray), .slice none 0 0]) (t := 59) ?hr ?_; (case hd => rfl); (case hg => rfl); (case hr => first | (go_simp; done) | (go_simp; rfl)); intro gb209 hg w16 hbox hb; have n0_ := Aside0.mk (Kd.R_below (by (with_reducible repeat (first | apply Kd.R_alloc | apply Kd.R_drewN | apply Kd.R_drew)); exact HO_3.out) hb); have n1_ := Aside0.mk (Kd.R_below (by (with_reducible repeat (first | apply Kd.R_alloc | apply Kd.R_drewN | apply Kd.R_drew)); exact HO_12.out) hb); have n2_ := Aside0.mk (Kd.R_below (by (with_reducible repeat (first | apply Kd.R_alloc | apply Kd.R_drewN | apply Kd.R_drew)); exact HO207.out) hb); have n3_ := Aside0.mk (blk_below (g := gb200) (o := .cells #[.int .i64 ((rd_T41 t193 x14_1).f0), .int .i64 ((rd_T41 t193 x14_1).f1), .string ((rd_T41 t193 x14_1).f2)] 41 (0, 0)) (by (with_reducible repeat (first | refine blk_drewN ?_ _ | refine blk_drew ?_ | refine blk_alloc ?_ _)); exact BK200.out) hb); have n4_ := Aside0.mk (below_step (by repeat (first | (with_reducible first | exact HB.out | apply below_alloc | apply pw_below_drewN | apply below_drew1 | refine below_set ?_ GE200.out) | exact HB.out)) hb); have n5_ := Aside0.mk (hbox); have n6_ := Aside0.mk ((by rw [hg]; exact (below_size (by repeat (first | (with_reducible first | exact HB.out | apply below_alloc | apply pw_below_drewN | apply below_drew1 | refine below_set ?_ GE200.out) | exact HB.out))) : w.heap.size ≤ gb209)); have n7_ := Aside0.mk ((by rw [hg]; exact (below_size (by repeat (first | (with_reducible first | exact HB.out | apply below_alloc | apply pw_below_drewN | apply below_drew1 | refine below_set ?_ GE200.out) | exact HB.out))) : w.heap.size ≤ gb209)); have n8_ := Aside0.mk ((by rw [hg]; exact Nat.ne_of_lt (blk_lt (g := gb200) (o := .cells #[.int .i64 ((rd_T41 t193 x14_1).f0), .int .i64 ((rd_T41 t193 x14_1).f1), .string ((rd_T41 t193 x14_1).f2)] 41 (0, 0)) (by (with_reducible repeat (first | refine blk_drewN ?_ _ | refine blk_drew ?_ | refine blk_alloc ?_ _)); exact BK200.out)) : gb200 ≠ gb209)); have n9_ := Aside0.mk ((by rw [hg]; exact Nat.ne_of_gt (blk_lt (g := gb200) (o := .cells #[.int .i64 ((rd_T41 t193 x14_1).f0), .int .i64 ((rd_T41 t193 x14_1).f1), .string ((rd_T41 t193 x14_1).f2)] 41 (0, 0)) (by (with_reducible repeat (first | refine blk_drewN ?_ _ | refine blk_drew ?_ | refine blk_alloc ?_ _)); exact BK200.out)) : gb209 ≠ gb200)); clear HO_3; clear HO_12; clear HO207; clear BK200; clear HB; have HO_3 := n0_; have HO_12 := n1_; have HO207 := n2_; have BK200 := n3_; have HB := n4_; have BK209 := n5_; have GW209 := n6_; have GE209 := n7_; have NB200_209 := n8_; have NB209_200 := n9_; clear n0_ n1_ n2_ n3_ n4_ n5_ n6_ n7_ n8_ n9_; clear hb hbox hg; have hnb17 := NB209_200.out; have hnc17 := NB200_209.out; have hcz18_0 : w16.cell? ⟨gb209, 0, none⟩ = some (.int .i64 0) := (blk_cell BK209.out 0).trans rfl; have hcz18_1 : w16.cell? ⟨gb209, 1, none⟩ = some (.int .i64 0) := (blk_cell BK209.out 1).trans rfl; have hcz18_2 : w16.cell? ⟨gb209, 2, none⟩ = some (.string (⟨#[]⟩ : ByteArray)) := (blk_cell BK209.out 2).trans rfl; have hcz18_3 : w16.cell? ⟨gb209, 3, none⟩ = some (.string (⟨#[]⟩ : ByteArray)) := (blk_cell BK209.out 3).trans rfl; have hcz18_4 : w16.cell? ⟨gb209, 4, none⟩ = some (.slice none 0 0) := (blk_cell BK209.out 4).trans rfl; have hfz18_0 := blk_frozen BK209.out 0; have hfz18_1 := blk_frozen BK209.out 1; have hfz18_2 := blk_frozen BK209.out 2; have hfz18_3 := blk_frozen BK209.out 3; have hfz18_4 := blk_frozen BK209.out 4; obtain ⟨Ao19, co19, eo19⟩ := Kd.R_slice HO207.out; subst eo19; have hcz20_0 : w16.cell? ⟨gb200, 0, none⟩ = some (.int .i64 ((rd_T41 t193 x14_1).f0)) := (blk_cell BK200.out 0).trans rfl; have hcz20_1 : w16.cell? ⟨gb200, 1, none⟩ = some (.int .i64 ((rd_T41 t193 x14_1).f1)) := (blk_cell BK200.out 1).trans rfl; have hcz20_2 : w16.cell? ⟨gb200, 2, none⟩ = some (.string ((rd_T41 t193 x14_1).f2)) := (blk_cell BK200.out 2).trans rfl; have hfz20_0 := blk_frozen BK200.out 0; have hfz20_1 := blk_frozen BK200.out 1; have hfz20_2 := blk_frozen BK200.out 2) | ((with_reducible refine gate_callee (f := 39) rfl ?_); refine goesL_ (some 34) rfl rfl Tryz.func39 (by kernel_rfl) rfl #[.pointer A0, .int .i64 ((rd_T41 t193 x14_1).f0)] rfl (by (try simp only [List.map_toArray, List.map_cons, List.map_nil]); first | done | rfl | (simp only [List.length_drop, List.length_take]; rfl)) ?_; (with_reducible refine (dom_Tree_Path.calls k1 _ l0.length l0 ((rd_T41 t193 x14_1).f0) t210 t211 _ ?side1 ?side2 A10.out).mono ?_); (case side1 => exact Kd.C_below HR0.out (by repeat (first | (with_reducible first | exact HB.out | apply below_alloc | apply pw_below_drewN | apply below_drew1 | refine below_set ?_ GE200.out | refine below_set ?_ GE209.out) | exact HB.out))); (case side2 => exact ⟨Nat.le_refl _, HC0.out.2⟩); rintro e w21 ⟨v212, rfl, ho0, hb⟩; refine ⟨_, rfl, ?_⟩; have n0_ := Aside0.mk (Kd.R_below (by (with_reducible repeat (first | apply Kd.R_alloc | apply Kd.R_drewN | apply Kd.R_drew)); exact (Kd.R_mono (Kd.R_far (p := ⟨gb209, 4, none⟩) (Kd.R_far (p := ⟨gb209, 3, none⟩) (Kd.R_far (p := ⟨gb209, 2, none⟩) (Kd.R_far (p := ⟨gb209, 1, none⟩) (Kd.R_far (p := ⟨gb209, 0, none⟩) (Kd.R_types HO_3.out BK209.out (by decide)) (fun _ hk => hk.2) (.int .i64 t201)) (fun _ hk => hk.2) (.int .i64 t202)) (fun _ hk => hk.2) (.string t203)) (fun _ hk => hk.2) (.string t204)) (fun _ hk => hk.2) (.slice Ao19 t205.length co19)) (fun _ h_ => h_.1))) hb); have n1_ := Aside0.mk (Kd.R_below (by (with_reducible repeat (first | apply Kd.R_alloc | apply Kd.R_drewN | apply Kd.R_drew)); exact (Kd.R_mono (Kd.R_far (p := ⟨gb209, 4, none⟩) (Kd.R_far (p := ⟨gb209, 3, none⟩) (Kd.R_far (p := ⟨gb209, 2, none⟩) (Kd.R_far (p := ⟨gb209, 1, none⟩) (Kd.R_far (p := ⟨gb209, 0, none⟩) (Kd.R_types HO_12.out BK209.out (by decide)) (fun _ hk => hk.2) (.int .i64 t201)) (fun _ hk => hk.2) (.int .i64 t202)) (fun _ hk => hk.2) (.string t203)) (fun _ hk => hk.2) (.string t204)) (fun _ hk => hk.2) (.slice Ao19 t205.length co19)) (fun _ h_ => h_.1))) hb); have n2_ := Aside0.mk (Kd.R_below (by (with_reducible repeat (first | apply Kd.R_alloc | apply Kd.R_drewN | apply Kd.R_drew)); exact (Kd.R_mono (Kd.R_far (p := ⟨gb209, 4, none⟩) (Kd.R_far (p := ⟨gb209, 3, none⟩) (Kd.R_far (p := ⟨gb209, 2, none⟩) (Kd.R_far (p := ⟨gb209, 1, none⟩) (Kd.R_far (p := ⟨gb209, 0, none⟩) (Kd.R_types HO207.out BK209.out (by decide)) (fun _ hk => hk.2) (.int .i64 t201)) (fun _ hk => hk.2) (.int .i64 t202)) (fun _ hk => hk.2) (.string t203)) (fun _ hk => hk.2) (.string t204)) (fun _ hk => hk.2) (.slice Ao19 t205.length co19)) (fun _ h_ => h_.1))) hb); have n3_ := Aside0.mk (Kd.R_lower ho0 (below_size (by repeat (first | (with_reducible first | exact HB.out | apply below_alloc | apply pw_below_drewN | apply below_drew1 | refine below_set ?_ GE200.out | refine below_set ?_ GE209.out) | exact HB.out)))); have n4_ := Aside0.mk (blk_below (g := gb200) (o := .cells #[.int .i64 ((rd_T41 t193 x14_1).f0), .int .i64 ((rd_T41 t193 x14_1).f1), .string ((rd_T41 t193 x14_1).f2)] 41 (0, 0)) (by (with_reducible repeat (first | refine blk_drewN ?_ _ | refine blk_drew ?_ | refine blk_alloc ?_ _)); refine blk_far ?_ NB200_209.out _; (with_reducible repeat (first | refine blk_drewN ?_ _ | refine blk_drew ?_ | refine blk_alloc ?_ _)); refine blk_far ?_ NB200_209.out _; (with_reducible repeat (first | refine blk_drewN ?_ _ | refine blk_drew ?_ | refine blk_alloc ?_ _)); refine blk_far ?_ NB200_209.out _; (with_reducible repeat (first | refine blk_drewN ?_ _ | refine blk_drew ?_ | refine blk_alloc ?_ _)); refine blk_far ?_ NB200_209.out _; (with_reducible repeat (first | refine blk_drewN ?_ _ | refine blk_drew ?_ | refine blk_alloc ?_ _)); refine blk_far ?_ NB200_209.out _; (with_reducible repeat (first | refine blk_drewN ?_ _ | refine blk_drew ?_ | refine blk_alloc ?_ _)); exact BK200.out) hb); have n5_ := Aside0.mk (blk_below (g := gb209) (o := .cells #[.int .i64 t201, .int .i64 t202, .string t203, .string t204, .slice Ao19 t205.length co19] 59 (0, 0)) (by (with_reducible repeat (first | refine blk_drewN ?_ _ | refine blk_drew ?_ | refine blk_alloc ?_ _)); refine blk_put (cs := #[.int .i64 t201, .int .i64 t202, .string t203, .string t204, .slice none 0 0]) ?_ 4 _ rfl; (with_reducible repeat (first | refine blk_drewN ?_ _ | refine blk_drew ?_ | refine blk_alloc ?_ _)); refine blk_put (cs := #[.int .i64 t201, .int .i64 t202, .string t203, .string (⟨#[]⟩ : ByteArray), .slice none 0 0]) ?_ 3 _ rfl; (with_reducible repeat (first | refine blk_drewN ?_ _ | refine blk_drew ?_ | refine blk_alloc ?_ _)); refine blk_put (cs := #[.int .i64 t201, .int .i64 t202, .string (⟨#[]⟩ : ByteArray), .string (⟨#[]⟩ : ByteArray), .slice none 0 0]) ?_ 2 _ rfl; (with_reducible repeat (first | refine blk_drewN ?_ _ | refine blk_drew ?_ | refine blk_alloc ?_ _)); refine blk_put (cs := #[.int .i64 t201, .int .i64 0, .string (⟨#[]⟩ : ByteArray), .string (⟨#[]⟩ : ByteArray), .slice none 0 0]) ?_ 1 _ rfl; (with_reducible repeat (first | refine blk_drewN ?_ _ | refine blk_drew ?_ | refine blk_alloc ?_ _)); refine blk_put (cs := #[.int .i64 0, .int .i64 0, .string (⟨#[]⟩ : ByteArray), .string (⟨#[]⟩ : ByteArray), .slice none 0 0]) ?_ 0 _ rfl; (with_reducible repeat (first | refine blk_drewN ?_ _ | refine blk_drew ?_ | refine blk_alloc ?_ _)); exact BK209.out) hb); have n6_ := Aside0.mk (below_step (by repeat (first | (with_reducible first | exact HB.out | apply below_alloc | apply pw_below_drewN | apply below_drew1 | refine below_set ?_ GE200.out | refine below_set ?_ GE209.out) | exact HB.out)) hb); clear HO_3; clear HO_12; clear HO207; clear BK200; clear BK209; clear HB; have HO_3 := n0_; have HO_12 := n1_; have HO207 := n2_; have HO213 := n3_; have BK200 := n4_; have BK209 := n5_; have HB := n6_; clear n0_ n1_ n2_ n3_ n4_ n5_ n6_; (try clear hb); (try clear hb2); (try clear hk); (try clear hi); (try clear ho0)))
                have n0_ := Aside0.mk (Kd.R_drew HO_3.out)
                have n1_ := Aside0.mk (Kd.R_drew HO_12.out)
                have n2_ := Aside0.mk (Kd.R_drew HO207.out)
                have n3_ := Aside0.mk (Kd.R_drew HO213.out)
                have n4_ := Aside0.mk (blk_drew BK200.out)
                have n5_ := Aside0.mk (blk_drew BK209.out)
                have n6_ := Aside0.mk (below_drew1 HB.out)
                clear HO_3
                clear HO_12
                clear HO207
                clear HO213
                clear BK200
                clear BK209
                clear HB
                have HO_3 := n0_
                have HO_12 := n1_
                have HO207 := n2_
                have HO213 := n3_
                have BK200 := n4_
                have BK209 := n5_
                have HB := n6_
                clear n0_ n1_ n2_ n3_ n4_ n5_ n6_
                obtain ⟨Ao23, co23, eo23⟩ := Kd.R_slice HO213.out
                (first | subst eo23 | (injection eo23 with f1_ f2_ f3_; have f4_ := f1_.symm; have f5_ := f3_.symm; clear f1_ f2_ f3_; subst f4_; subst f5_))
                refine start_ (n := 9) (S := fun w' => w'.cell? ⟨gb209, 0, none⟩ = some (.int .i64 t201) ∧ w'.cell? ⟨gb209, 1, none⟩ = some (.int .i64 t202) ∧ w'.cell? ⟨gb209, 2, none⟩ = some (.string t203) ∧ w'.cell? ⟨gb209, 3, none⟩ = some (.string t204) ∧ w'.cell? ⟨gb209, 4, none⟩ = some (.slice Ao19 t205.length co19)) (ds := []) #[false, false, false, false, false, false, false, false, false] (by kernel_rfl) rfl rfl ⟨(blk_cell BK209.out 0).trans rfl, (blk_cell BK209.out 1).trans rfl, (blk_cell BK209.out 2).trans rfl, (blk_cell BK209.out 3).trans rfl, (blk_cell BK209.out 4).trans rfl⟩ (fun hHeld => ?_); refine with_tabW outline_Check.tab9 outline_Check.bits9 (fun HT_ HW_ => ?_)
                generalize w21.drew = w22 at HO_3 HO_12 HO207 HO213 BK200 BK209 HB hHeld ⊢
                refine pure_ (i := 0) (N := some 37) (v := ?_) (a' := ?_) #[true, false, false, false, false, false, false, false, false] rfl rfl (any_of HT_.out (by kernel_rfl)) (fun _ _ _ h => h) (Or.inl ⟨by rfl, ?_⟩) ?_ ?_
                rotate_left
                · intro w'
                  go_simp
                  with_reducible rfl
                rotate_left
                · simp only [Act.put, List.setIfInBounds_toArray, List.set_cons_zero, List.set_cons_succ, i64_w, i32_w]
                  rfl
                refine pure_ (i := 1) (N := some 38) (v := ?_) (a' := ?_) #[true, true, false, false, false, false, false, false, false] rfl rfl (any_of HT_.out (by kernel_rfl)) (fun _ _ _ h => h) (Or.inl ⟨by rfl, ?_⟩) ?_ ?_
                rotate_left
                · intro w'
                  go_simp
                  with_reducible rfl
                rotate_left
                · simp only [Act.put, List.setIfInBounds_toArray, List.set_cons_zero, List.set_cons_succ, i64_w, i32_w]
                  rfl
                refine pure_ (i := 3) (N := some 40) (v := ?_) (a' := ?_) #[true, true, false, true, false, false, false, false, false] rfl rfl (any_of HT_.out (by kernel_rfl)) (fun _ _ _ h => h) (Or.inl ⟨by rfl, ?_⟩) ?_ ?_
                rotate_left
                · intro w'
                  go_simp
                  with_reducible rfl
                rotate_left
                · simp only [Act.put, List.setIfInBounds_toArray, List.set_cons_zero, List.set_cons_succ, i64_w, i32_w]
                  rfl
                refine take_ (i := 2) (N := some 39) (v := ?_) (a' := ?_) #[true, true, true, true, false, false, false, false, false] rfl rfl (take_ofW HT_.out HW_.out (by kernel_rfl)) (fun _ _ _ h => h) (Or.inl ⟨by rfl, ?_⟩) hHeld ?_ ?_
                rotate_left
                · rintro w' ⟨s0, s1, s2, s3, s4⟩
                  go_simp
                  with_reducible rfl
                rotate_left
                · simp only [Act.put, List.setIfInBounds_toArray, List.set_cons_zero, List.set_cons_succ, i64_w, i32_w]
                  rfl
                refine one_ (i := 4) (N := some 41) #[true, true, true, true, true, false, false, false, false] rfl rfl (one_of HT_.out (by kernel_rfl)) (by decide) (fun K hK => ?_)
                refine goes_ Tryz.func40 (by kernel_rfl) rfl #[.slice Ao23 t210.length co23] (by rfl) rfl rfl (by (try simp only [List.map_toArray, List.map_cons, List.map_nil]); first | done | rfl | (simp only [List.length_drop, List.length_take]; rfl)) ?_
                with_reducible refine (place_Path.calls _ _ t210 t214 _ ?side1 ?side2 (by repeat (first | exact GW.below HG.out HB.out | exact HG.out | (with_reducible refine GW.alloc ?_ _) | (with_reducible refine GW.drewN ?_ _) | (with_reducible refine GW.drew ?_))) A11.out).mono ?_
                (case side1 => repeat (first | exact (Kd.R_reads' HO213.out).2.2 | (with_reducible refine Kd.C_alloc ?_ _) | (with_reducible refine Kd.C_drewN ?_ _) | (with_reducible refine Kd.C_drew ?_)))
                (case side2 => exact (Kd.R_reads' HO213.out).2.1)
                rintro e w24 ⟨rfl, hb⟩
                refine ⟨_, rfl, ?_⟩
                have n0_ := Aside0.mk (Kd.R_below (by (with_reducible repeat (first | apply Kd.R_alloc | apply Kd.R_drewN | apply Kd.R_drew)); exact HO_3.out) hb)
                have n1_ := Aside0.mk (Kd.R_below (by (with_reducible repeat (first | apply Kd.R_alloc | apply Kd.R_drewN | apply Kd.R_drew)); exact HO_12.out) hb)
                have n2_ := Aside0.mk (Kd.R_below (by (with_reducible repeat (first | apply Kd.R_alloc | apply Kd.R_drewN | apply Kd.R_drew)); exact HO207.out) hb)
                have n3_ := Aside0.mk (Kd.R_below (by (with_reducible repeat (first | apply Kd.R_alloc | apply Kd.R_drewN | apply Kd.R_drew)); exact HO213.out) hb)
                have n4_ := Aside0.mk (blk_below (g := gb200) (o := .cells #[.int .i64 ((rd_T41 t193 x14_1).f0), .int .i64 ((rd_T41 t193 x14_1).f1), .string ((rd_T41 t193 x14_1).f2)] 41 (0, 0)) (by (with_reducible repeat (first | refine blk_drewN ?_ _ | refine blk_drew ?_ | refine blk_alloc ?_ _)); exact BK200.out) hb)
                have n5_ := Aside0.mk (blk_below (g := gb209) (o := .cells #[.int .i64 t201, .int .i64 t202, .string t203, .string t204, .slice Ao19 t205.length co19] 59 (0, 0)) (by (with_reducible repeat (first | refine blk_drewN ?_ _ | refine blk_drew ?_ | refine blk_alloc ?_ _)); exact BK209.out) hb)
                have n6_ := Aside0.mk (below_step (by repeat (first | (with_reducible first | exact HB.out | apply below_alloc | apply pw_below_drewN | apply below_drew1 | refine below_set ?_ GE200.out | refine below_set ?_ GE209.out) | exact HB.out)) hb)
                clear HO_3
                clear HO_12
                clear HO207
                clear HO213
                clear BK200
                clear BK209
                clear HB
                have HO_3 := n0_
                have HO_12 := n1_
                have HO207 := n2_
                have HO213 := n3_
                have BK200 := n4_
                have BK209 := n5_
                have HB := n6_
                clear n0_ n1_ n2_ n3_ n4_ n5_ n6_
                (try clear hb)
                (try clear hb2)
                (try clear hk)
                (try clear hi)
                refine hK.out _ _ ⟨(blk_cell BK209.out 0).trans rfl, (blk_cell BK209.out 1).trans rfl, (blk_cell BK209.out 2).trans rfl, (blk_cell BK209.out 3).trans rfl, (blk_cell BK209.out 4).trans rfl⟩ (fun hHeld => ?_)
                clear hK K
                refine norm_ (a' := ?_) ?_ ?_
                rotate_left
                · show Act.put _ (some 41) _ = _
                  simp only [Act.put, List.setIfInBounds_toArray, List.set_cons_zero, List.set_cons_succ, i64_w, i32_w]
                  rfl
                refine pure_ (i := 5) (N := some 42) (v := ?_) (a' := ?_) #[true, true, true, true, true, true, false, false, false] rfl rfl (any_of HT_.out (by kernel_rfl)) (fun _ _ _ h => h) (Or.inl ⟨by rfl, ?_⟩) ?_ ?_
                rotate_left
                · intro w'
                  go_simp
                  with_reducible rfl
                rotate_left
                · simp only [Act.put, List.setIfInBounds_toArray, List.set_cons_zero, List.set_cons_succ, i64_w, i32_w]
                  rfl
                refine one_ (i := 6) (N := some 43) #[true, true, true, true, true, true, true, false, false] rfl rfl (one_of HT_.out (by kernel_rfl)) (by decide) (fun K hK => ?_)
                refine value_ (w1 := ?_) (v := ?_) (by rfl) rfl ?_ ?_
                rotate_left 2
                · go_simp
                  constructor
                  · rfl
                  · rfl
                refine hK.out _ _ ⟨(blk_cell (blk_alloc BK209.out _) 0).trans rfl, (blk_cell (blk_alloc BK209.out _) 1).trans rfl, (blk_cell (blk_alloc BK209.out _) 2).trans rfl, (blk_cell (blk_alloc BK209.out _) 3).trans rfl, (blk_cell (blk_alloc BK209.out _) 4).trans rfl⟩ (fun hHeld => ?_)
                clear hK K
                refine norm_ (a' := ?_) ?_ ?_
                rotate_left
                · show Act.put _ (some 43) _ = _
                  simp only [Act.put, List.setIfInBounds_toArray, List.set_cons_zero, List.set_cons_succ, i64_w, i32_w]
                  rfl
                refine one_ (i := 7) (N := some 44) #[true, true, true, true, true, true, true, true, false] rfl rfl (one_of HT_.out (by kernel_rfl)) (by decide) (fun K hK => ?_)
                refine Kd.R_append_step k64 (w0 := w) w.heap.size (by rfl) (.tmp 37) (.tmp 43) 35 64 (.agg #[(.int .i64 0), (.int .i64 0), (.string ⟨#[]⟩)]) 32 rfl Tryz.underlying35 info64 rfl (by decide) (by omega) u3 x3_1 (⟨55, t202, t214⟩ : S64) [.int .i64 55, .int .i64 t202, .string t214] (fun _ => True) (fun _ => False) rfl rfl ?aP (fun _ hk => hk.elim) ?aF ?aO ?aB ?aS ?aL ?_
                (case aP => exact k64_mkM _ _ _ (⟨55, t202, t214⟩ : S64))
                (case aB => exact (by repeat (first | (with_reducible first | exact HB.out | apply below_alloc | apply pw_below_drewN | apply below_drew1 | refine below_set ?_ GE200.out | refine below_set ?_ GE209.out) | exact HB.out)))
                (case aF => exact (fun _ _ => trivial))
                (case aO => exact (by (with_reducible repeat (first | apply Kd.R_alloc | apply Kd.R_drewN | apply Kd.R_drew)); exact HO_3.out))
                (case aS => exact (below_size (by repeat (first | (with_reducible first | exact HB.out | apply below_alloc | apply pw_below_drewN | apply below_drew1 | refine below_set ?_ GE200.out | refine below_set ?_ GE209.out) | exact HB.out))))
                (case aL => have := LMc12.out; omega)
                intro v216 w25 ho hb hg hat
                rw [← Ny215.out] at ho
                have n0_ := Aside0.mk (Kd.R_over' (by (with_reducible repeat (first | apply Kd.R_alloc | apply Kd.R_drewN | apply Kd.R_drew)); exact HO_12.out) (Kd.R_typed (by (with_reducible repeat (first | apply Kd.R_alloc | apply Kd.R_drewN | apply Kd.R_drew)); exact HO_3.out)) (by decide) hg)
                have n1_ := Aside0.mk (blk_grown (g := gb200) (o := .cells #[.int .i64 ((rd_T41 t193 x14_1).f0), .int .i64 ((rd_T41 t193 x14_1).f1), .string ((rd_T41 t193 x14_1).f2)] 41 (0, 0)) (by (with_reducible repeat (first | refine blk_drewN ?_ _ | refine blk_drew ?_ | refine blk_alloc ?_ _)); exact BK200.out) hg (Kd.R_ne HO_3.out BK200.out (by decide)))
                have n2_ := Aside0.mk (Kd.R_over' (by (with_reducible repeat (first | apply Kd.R_alloc | apply Kd.R_drewN | apply Kd.R_drew)); exact HO207.out) (Kd.R_typed (by (with_reducible repeat (first | apply Kd.R_alloc | apply Kd.R_drewN | apply Kd.R_drew)); exact HO_3.out)) (by decide) hg)
                have n3_ := Aside0.mk (blk_grown (g := gb209) (o := .cells #[.int .i64 t201, .int .i64 t202, .string t203, .string t204, .slice Ao19 t205.length co19] 59 (0, 0)) (by (with_reducible repeat (first | refine blk_drewN ?_ _ | refine blk_drew ?_ | refine blk_alloc ?_ _)); exact BK209.out) hg (Kd.R_ne HO_3.out BK209.out (by decide)))
                have n4_ := Aside0.mk (Kd.R_over' (by (with_reducible repeat (first | apply Kd.R_alloc | apply Kd.R_drewN | apply Kd.R_drew)); exact HO213.out) (Kd.R_typed (by (with_reducible repeat (first | apply Kd.R_alloc | apply Kd.R_drewN | apply Kd.R_drew)); exact HO_3.out)) (by decide) hg)
                have n5_ := Aside0.mk (hb)
                have n6_ := Aside0.mk (ho)
                clear HO_12
                clear BK200
                clear HO207
                clear BK209
                clear HO213
                clear HB
                clear HO_3
                have HO_12 := n0_
                have BK200 := n1_
                have HO207 := n2_
                have BK209 := n3_
                have HO213 := n4_
                have HB := n5_
                have HO217 := n6_
                clear n0_ n1_ n2_ n3_ n4_ n5_ n6_
                clear ho hb hg hat
                refine hK.out _ _ ⟨(blk_cell BK209.out 0).trans rfl, (blk_cell BK209.out 1).trans rfl, (blk_cell BK209.out 2).trans rfl, (blk_cell BK209.out 3).trans rfl, (blk_cell BK209.out 4).trans rfl⟩ (fun hHeld => ?_)
                clear hK K
                refine norm_ (a' := ?_) ?_ ?_
                rotate_left
                · show Act.put _ (some 44) _ = _
                  simp only [Act.put, List.setIfInBounds_toArray, List.set_cons_zero, List.set_cons_succ, i64_w, i32_w]
                  rfl
                refine pure_ (i := 8) (N := some 3) (v := ?_) (a' := ?_) #[true, true, true, true, true, true, true, true, true] rfl rfl (any_of HT_.out (by kernel_rfl)) (fun _ _ _ h => h) (Or.inl ⟨by rfl, ?_⟩) ?_ ?_
                rotate_left
                · intro w'
                  go_simp
                  with_reducible rfl
                rotate_left
                · simp only [Act.put, List.setIfInBounds_toArray, List.set_cons_zero, List.set_cons_succ, i64_w, i32_w]
                  rfl
                refine done_ (done_of HT_.out (by kernel_rfl)) ?_
                have hcz26_0 : w25.cell? ⟨gb200, 0, none⟩ = some (.int .i64 ((rd_T41 t193 x14_1).f0)) := (blk_cell BK200.out 0).trans rfl
                have hcz26_1 : w25.cell? ⟨gb200, 1, none⟩ = some (.int .i64 ((rd_T41 t193 x14_1).f1)) := (blk_cell BK200.out 1).trans rfl
                have hcz26_2 : w25.cell? ⟨gb200, 2, none⟩ = some (.string ((rd_T41 t193 x14_1).f2)) := (blk_cell BK200.out 2).trans rfl
                have hfz26_0 := blk_frozen BK200.out 0
                have hfz26_1 := blk_frozen BK200.out 1
                have hfz26_2 := blk_frozen BK200.out 2
                try go_wp2
                go_roundg k1
                case measure => have := HK1.out; omega
                case rel => exact ⟨(y215), ((rd_T41 t193 x14_1).f1), (wrap64 (x14_1 + 1)), (by first | rfl | (simp; done) | (simp [*]; done)), (by first | rfl | (simp; done) | (simp [*]; done)), H', ⟨by have := HK1.out; omega⟩, ⟨by (with_reducible repeat (first | apply Kd.R_alloc | apply Kd.R_drewN | apply Kd.R_drew)); exact HO217.out⟩, ⟨by (with_reducible repeat (first | apply Kd.R_alloc | apply Kd.R_drewN | apply Kd.R_drew)); exact Kd.R_mono HO_12.out (fun _ hk => trivial)⟩, ⟨by repeat (first | (with_reducible first | exact HB.out | apply below_alloc | apply pw_below_drewN | apply below_drew1 | refine below_set ?_ GE200.out | refine below_set ?_ GE209.out) | exact HB.out)⟩⟩
              · rw [if_neg c12] at H
                exact absurd H (by simp)
            · rw [if_neg c8] at H
              have c8b0 : decide ((wrap64 (x4_1 + 1)) < ((rd_T41 t193 x14_1).f1)) = false := decide_eq_false c8
              clear c8
              have H' := Aside0.mk H
              clear H
              have p199 : 0 ≤ (x14_1 : Int) := of_decide_eq_true (by first | (with_reducible assumption) | assumption)
              have q199 : x14_1 < (t193.length : Int) := of_decide_eq_true (by first | (with_reducible assumption) | assumption)
              obtain ⟨ad199, e199, hx199_0, hx199_1, hx199_2⟩ := at_T41 (Kd.R_reads' HO_12.out).2.2 x14_1 p199 q199
              cases e199
              replace p199 := eq_true p199
              replace q199 := eq_true q199
              go_wp2_with (first | ((with_reducible refine gate_dst (N := 6) rfl ?_); refine box_event ?hg (N := 6) ?hd (cs := #[.int .i64 0, .int .i64 0, .string (⟨#[]⟩ : ByteArray)]) (t := 41) ?hr ?_; (case hd => rfl); (case hg => rfl); (case hr => first | (go_simp; done) | (go_simp; rfl)); intro gb200 hg w27 hbox hb; have n0_ := Aside0.mk (Kd.R_below (by (with_reducible repeat (first | apply Kd.R_alloc | apply Kd.R_drewN | apply Kd.R_drew)); exact HO_3.out) hb); have n1_ := Aside0.mk (Kd.R_below (Kd.R_elderB (by (with_reducible repeat (first | apply Kd.R_alloc | apply Kd.R_drewN | apply Kd.R_drew)); exact HO_12.out) gb200 (Nat.le_of_eq hg.symm)) hb); have n2_ := Aside0.mk (below_step (by repeat (first | (with_reducible first | exact HB.out | apply below_alloc | apply pw_below_drewN | apply below_drew1) | exact HB.out)) hb); have n3_ := Aside0.mk (hbox); have n4_ := Aside0.mk ((by rw [hg]; exact (below_size (by repeat (first | (with_reducible first | exact HB.out | apply below_alloc | apply pw_below_drewN | apply below_drew1) | exact HB.out))) : w.heap.size ≤ gb200)); have n5_ := Aside0.mk ((by rw [hg]; exact (below_size (by repeat (first | (with_reducible first | exact HB.out | apply below_alloc | apply pw_below_drewN | apply below_drew1) | exact HB.out))) : w.heap.size ≤ gb200)); clear HO_3; clear HO_12; clear HB; have HO_3 := n0_; have HO_12 := n1_; have HB := n2_; have BK200 := n3_; have GW200 := n4_; have GE200 := n5_; clear n0_ n1_ n2_ n3_ n4_ n5_; clear hb hbox hg; have hcz28_0 : w27.cell? ⟨gb200, 0, none⟩ = some (.int .i64 0) := (blk_cell BK200.out 0).trans rfl; have hcz28_1 : w27.cell? ⟨gb200, 1, none⟩ = some (.int .i64 0) := (blk_cell BK200.out 1).trans rfl; have hcz28_2 : w27.cell? ⟨gb200, 2, none⟩ = some (.string (⟨#[]⟩ : ByteArray)) := (blk_cell BK200.out 2).trans rfl; have hfz28_0 := blk_frozen BK200.out 0; have hfz28_1 := blk_frozen BK200.out 1; have hfz28_2 := blk_frozen BK200.out 2))
              go_roundg k1
              case measure => have := HK1.out; omega
              case rel => exact ⟨(x3_1), ((rd_T41 t193 x14_1).f1), (wrap64 (x14_1 + 1)), (by first | rfl | (simp; done) | (simp [*]; done)), (by first | rfl | (simp; done) | (simp [*]; done)), H', ⟨by have := HK1.out; omega⟩, ⟨by (with_reducible repeat (first | apply Kd.R_alloc | apply Kd.R_drewN | apply Kd.R_drew)); exact Kd.R_mono (Kd.R_far (p := ⟨gb200, 2, none⟩) (Kd.R_far (p := ⟨gb200, 1, none⟩) (Kd.R_far (p := ⟨gb200, 0, none⟩) (Kd.R_types HO_3.out BK200.out (by decide)) (fun _ hk => hk.2) (.int .i64 ((rd_T41 t193 x14_1).f0))) (fun _ hk => hk.2) (.int .i64 ((rd_T41 t193 x14_1).f1))) (fun _ hk => hk.2) (.string ((rd_T41 t193 x14_1).f2))) (fun _ hk => trivial)⟩, ⟨by (with_reducible repeat (first | apply Kd.R_alloc | apply Kd.R_drewN | apply Kd.R_drew)); exact Kd.R_mono (Kd.R_far (p := ⟨gb200, 2, none⟩) (Kd.R_far (p := ⟨gb200, 1, none⟩) (Kd.R_far (p := ⟨gb200, 0, none⟩) (Kd.R_mono HO_12.out (fun k_ hk => (⟨hk, hk.2⟩ : _ ∧ k_ ≠ gb200))) (fun _ hk => hk.2) (.int .i64 ((rd_T41 t193 x14_1).f0))) (fun _ hk => hk.2) (.int .i64 ((rd_T41 t193 x14_1).f1))) (fun _ hk => hk.2) (.string ((rd_T41 t193 x14_1).f2))) (fun _ hk => trivial)⟩, ⟨by repeat (first | (with_reducible first | exact HB.out | apply below_alloc | apply pw_below_drewN | apply below_drew1 | refine below_set ?_ GE200.out) | exact HB.out)⟩⟩
          · rw [if_neg c7] at H
            exact absurd H (by simp)
        · rw [if_neg c6] at H
          exact absurd H (by simp)
      · rw [if_neg c5] at H
        have c5b0 : decide (x14_1 < (t193.length : Int)) = false := decide_eq_false c5
        clear c5
        replace H := Option.bind_eq_some_iff.mp H
        obtain ⟨t196, A290, H⟩ := H
        replace H : (some t196) = some r := H
        have A29 := Aside0.mk A290
        clear A290
        obtain rfl := Option.some.inj H
        obtain ⟨Ao30, co30, eo30⟩ := Kd.R_slice HO_3.out
        subst eo30
        go_wp2_with (first | ((with_reducible refine gate_callee (f := 41) rfl ?_); refine goesL_ (some 49) rfl rfl Tryz.func41 (by kernel_rfl) rfl #[.slice Ao30 x3_1.length co30] rfl (by (try simp only [List.map_toArray, List.map_cons, List.map_nil]); first | done | rfl | (simp only [List.length_drop, List.length_take]; rfl)) ?_; (with_reducible refine (merge_Sort.calls _ _ x3_1 t196 _ ?side1 ?side2 A29.out).mono ?_); (case side1 => repeat (first | exact (Kd.R_reads' HO_3.out).2.2 | (with_reducible refine Kd.C_alloc ?_ _) | (with_reducible refine Kd.C_drewN ?_ _) | (with_reducible refine Kd.C_drew ?_))); (case side2 => exact (Kd.R_reads' HO_3.out).2.1); rintro e w31 ⟨v197, rfl, ho0, hb⟩; refine ⟨_, rfl, ?_⟩; have n0_ := Aside0.mk (Kd.R_elder' (by (with_reducible repeat (first | apply Kd.R_alloc | apply Kd.R_drewN | apply Kd.R_drew)); exact HO_3.out) (Kd.R_base ho0) hb); have n1_ := Aside0.mk (Kd.R_below (by (with_reducible repeat (first | apply Kd.R_alloc | apply Kd.R_drewN | apply Kd.R_drew)); exact HO_12.out) hb); have n2_ := Aside0.mk (Kd.R_lower (Kd.R_new' ho0 (Kd.R_lt (by (with_reducible repeat (first | apply Kd.R_alloc | apply Kd.R_drewN | apply Kd.R_drew)); exact HO_3.out))) (below_size (by repeat (first | (with_reducible first | exact HB.out | apply below_alloc | apply pw_below_drewN | apply below_drew1) | exact HB.out)))); have n3_ := Aside0.mk (below_step (by repeat (first | (with_reducible first | exact HB.out | apply below_alloc | apply pw_below_drewN | apply below_drew1) | exact HB.out)) hb); clear HO_3; clear HO_12; clear HB; have HO_3 := n0_; have HO_12 := n1_; have HO198 := n2_; have HB := n3_; clear n0_ n1_ n2_ n3_; (try clear hb); (try clear hb2); (try clear hk); (try clear hi); (try clear ho0)))
        go_ret
        exact ⟨_, by first | rfl | (simp [errW_none, errW_some] <;> rfl) | (simp [*, errW_none, errW_some] <;> rfl), by (with_reducible repeat (first | apply Kd.R_alloc | apply Kd.R_drewN | apply Kd.R_drew)); exact Kd.R_mono HO198.out (fun _ hk => trivial), by repeat (first | (with_reducible first | exact HB.out | apply below_alloc | apply pw_below_drewN | apply below_drew1) | exact HB.out)⟩
end Go.Proofs.YtomdidopflebjaaGreatDoor.PM
namespace Go.Proofs.YtomdidopflebjaaGreatDoor.PM
open Go.RowKit Go.Proofs.YtomdidopflebjaaGreatDoorW.PrintWords Go.Proofs.YtomdidopflebjaaGreatDoorW.PrintLast Go.Proofs.YtomdidopflebjaaGreatDoorW.PrintMore
/-- What turned: blocks of some types, and new ones. -/
structure TFrame (ts : List Nat) (w w' : World) : Prop where
  os : w'.os = w.os
  tape : w'.tape = w.tape
  output : w'.output = w.output
  size : w.heap.size ≤ w'.heap.size
  block : ∀ (k : Nat) (o : Obj), w.heap[k]? = some o → (∀ cs t fr, o = Obj.cells cs t fr → t ∉ ts) → w'.heap[k]? = some o
theorem TFrame.trans {ts : List Nat} {a b c : World} (h : TFrame ts a b) (k : TFrame ts b c) : TFrame ts a c :=
  ⟨k.os.trans h.os, k.tape.trans h.tape, k.output.trans h.output, Nat.le_trans h.size k.size, fun i o hi ht => k.block i o (h.block i o hi ht) ht⟩
theorem TFrame.of_below {ts : List Nat} {w w' : World} (h : Below w.heap.size w w') : TFrame ts w w' :=
  ⟨h.os, h.tape, h.output, h.size, fun k _ hk _ => (h.block k (blk_lt hk)).trans hk⟩
theorem TFrame.setCell {ts : List Nat} {w : World} {g j t : Nat} {cs : Array Value} (hb : w.heap[g]? = some (.cells cs t (0, 0))) (ht : t ∈ ts) (v : Value) : TFrame ts w (w.setCell ⟨g, j, none⟩ v) := by
  refine ⟨rfl, rfl, rfl, by simp [World.setCell], fun k o hk hn => ?_⟩
  by_cases e : k = g
  · subst e
    rw [hb] at hk
    injection hk with hk
    exact absurd ht (hn _ _ _ hk.symm)
  · exact (Below.heap_setCell w ⟨g, j, none⟩ v k e).trans hk
theorem TFrame.grown {ts : List Nat} {w w' : World} {row : Option Nat} (hg : w.grownBy w' row) (ht : ∀ k, row = some k → ∃ cs t fr, w.heap[k]? = some (.cells cs t fr) ∧ t ∈ ts) : TFrame ts w w' := by
  refine ⟨hg.os, hg.tape, hg.output, hg.size, fun k o hk hn => ?_⟩
  refine (hg.block k (blk_lt hk) (fun e => ?_)).trans hk
  obtain ⟨cs, t, fr, hb, hm⟩ := ht k e.symm
  rw [hk] at hb
  injection hb with hb
  exact hn _ _ _ hb hm
theorem TFrame.blk {ts : List Nat} {w w' : World} {g t : Nat} {cs : Array Value} (h : TFrame ts w w') (hb : w.heap[g]? = some (.cells cs t (0, 0))) (ht : t ∉ ts) : w'.heap[g]? = some (.cells cs t (0, 0)) :=
  h.block g _ hb (fun cs' t' fr' e => by injection e with _ e; exact e ▸ ht)
theorem TFrame.R {α : Type} {d : Kd α} {ts : List Nat} {e base : Nat} {w w' : World} {v : Value} {xs : List α} (h : TFrame ts w w') (hr : d.R e w base (fun _ => True) v xs) (ht : ∀ q, q ∈ e :: d.E → q ∉ ts) : d.R e w' base (fun _ => True) v xs := by
  refine Kd.R_mono (Kd.R_step (Kd.R_bound hr) (fun k hk1 hk2 => ?_)) (fun _ _ => trivial)
  obtain ⟨_, _, _, q, hq, cells, hc⟩ := hk1
  rw [hc]
  exact h.blk hc (ht q hq)
/-- A tree: a block with the head of a row of one's own. -/
structure TreeAt {α : Type} (d : Kd α) (e tt base : Nat) (W : World) (g : Nat) (xs : List α) : Prop where
  low : base ≤ g
  row : ∃ v, W.heap[g]? = some (.cells #[v] tt (0, 0)) ∧ d.R e W base (fun _ => True) v xs
theorem TreeAt.frame {α : Type} {d : Kd α} {ts : List Nat} {e tt base g : Nat} {w w' : World} {xs : List α} (hT : TreeAt d e tt base w g xs) (h : TFrame ts w w') (ht : ∀ q, q ∈ tt :: e :: d.E → q ∉ ts) : TreeAt d e tt base w' g xs := by
  obtain ⟨hl, v, hb, hr⟩ := hT
  exact ⟨hl, v, h.blk hb (ht tt (by simp)), h.R hr (fun q hq => ht q (by simp at hq ⊢; exact .inr hq))⟩
theorem TreeAt.below {α : Type} {d : Kd α} {e tt base g : Nat} {w w' : World} {xs : List α} (hT : TreeAt d e tt base w g xs) (h : Below w.heap.size w w') : TreeAt d e tt base w' g xs :=
  hT.frame (TFrame.of_below (ts := []) h) (by simp)
abbrev DomAt (base : Nat) (W : World) (g : Nat) (T : List S110) : Prop := TreeAt k110 110 113 base W g T
theorem DomAt.C {base g : Nat} {W : World} {T : List S110} (h : DomAt base W g T) : Kd.C k113 W (some ⟨g, 0, none⟩) ([⟨T⟩] : List S113).length [⟨T⟩] := by
  obtain ⟨_, v, hb, hr⟩ := h
  refine ⟨rfl, by simp, fun _ => ⟨⟨g, 0, none⟩, rfl, fun j p hp => ?_⟩⟩
  obtain ⟨rfl, rfl⟩ : j = 0 ∧ p = ⟨T⟩ := by
    match j, hp with
    | 0, hp => exact ⟨rfl, by simpa using hp.symm⟩
    | j + 1, hp => simp at hp
  obtain ⟨A, c, e⟩ := Kd.R_slice hr
  subst e
  refine ⟨[.slice A T.length c], rfl, k113_mk W ⟨T⟩ (Kd.R_reads' hr).2.1 (Kd.R_reads' hr).2.2, fun i u hi => ?_⟩
  match i, hi with
  | 0, hi =>
    obtain rfl : Value.slice A T.length c = u := by simpa using hi
    exact (blk_cell hb 0).trans rfl
def loose107 : S107 := ⟨-1, -1, -1, -1, -1⟩
set_option maxHeartbeats 1000000 in
theorem loose_any (w : World) : Calls Tryz.prog 46 #[] w fun e w' => e = .returned (.agg #[.int .i64 (-1), .int .i64 (-1), .int .i64 (-1), .int .i64 (-1), .int .i64 (-1)]) ∧ Below w.heap.size w w' := by
  go_enter Tryz.func46, Tryz.ntmps46
  go_wp2
  exact bodyPost_ret (v := .agg #[.int .i64 (-1), .int .i64 (-1), .int .i64 (-1), .int .i64 (-1), .int .i64 (-1)]) (by simp [results, Tryz.results46, go_sem]) rfl ⟨rfl, (Below.refl _ _).alloc (Nat.le_refl _) _⟩
end Go.Proofs.YtomdidopflebjaaGreatDoor.PM
namespace Go.Proofs.YtomdidopflebjaaGreatDoor.PM
open Go.RowKit Go.Proofs.YtomdidopflebjaaGreatDoorW.PrintWords Go.Proofs.YtomdidopflebjaaGreatDoorW.PrintLast Go.Proofs.YtomdidopflebjaaGreatDoorW.PrintMore
theorem infoP110 : (Tryz.prog.info? 110).map (fun i => (i.zero, i.size, i.bytes)) = some (some (.agg #[.int .i64 0, .int .i64 0, .string ⟨#[]⟩, .string ⟨#[]⟩, .slice none 0 0, .int .i64 0, .int .i64 0, .int .i64 0, .int .i64 0, .int .i64 0]), 10, 112) := by kernel_rfl
def nodeCells (n : S59) (va : Value) : List Value := [.int .i64 n.f0, .int .i64 n.f1, .string n.f2, .string n.f3, va, .int .i64 (-1), .int .i64 (-1), .int .i64 (-1), .int .i64 (-1), .int .i64 (-1)]
theorem R_ne_tree {base g : Nat} {W : World} {T : List S110} {v : Value} (hb : W.heap[g]? = some (.cells #[v] 113 (0, 0))) (hR0 : Kd.R k110 110 W base (fun _ => True) v T) : some g ≠ v.ownBlock := fun e => by
  obtain ⟨cs, hc⟩ := Kd.R_typed hR0 g e.symm
  rw [hb] at hc
  injection hc with hc
  injection hc with _ hc
  exact absurd hc (by decide)
/-- What the append leaves. -/
theorem make_parts {base g : Nat} {W W1 : World} {T : List S110} {n : S59} {va v v' : Value} {inner : List Value} {o : Obj} (hb : W.heap[g]? = some (.cells #[v] 113 (0, 0))) (hl : base ≤ g) (hbase : base ≤ W.heap.size) (h0 : ∀ k, v.ownBlock = some k → True)
    (hown0 : W.ownsRow base 110 10 v T.length inner) (hrep : Reps (k110.M W base (fun k => True ∧ some k ≠ v.ownBlock)) 10 T inner) (hva : Kd.R k71 71 W base (fun _ => True) va n.f4)
    (hown : W1.ownsRow base 110 10 v' (T.length + 1) (inner ++ nodeCells n va)) (hg : (W.alloc o).grownBy W1 v.ownBlock) (hat : v'.ownBlock = v.ownBlock ∨ ∃ b, v'.ownBlock = some b ∧ W.heap.size ≤ b) :
    DomAt base (W1.setCell ⟨g, 0, none⟩ v') g (T ++ [⟨n, loose107⟩]) ∧ TFrame [110, 113] W (W1.setCell ⟨g, 0, none⟩ v') ∧ Below base W (W1.setCell ⟨g, 0, none⟩ v') := by
  have hR0 : Kd.R k110 110 W base (fun _ => True) v T := ⟨h0, inner, hown0, hrep⟩
  have hvt := Kd.R_typed hR0
  have hg' : W.grownBy W1 v.ownBlock := (World.grownBy_alloc W o _).trans hg
  have hgne : some g ≠ v.ownBlock := fun e => by
    obtain ⟨cs, hc⟩ := hvt g e.symm
    rw [hb] at hc
    injection hc with hc
    injection hc with _ hc
    exact absurd hc (by decide)
  have hb1 : W1.heap[g]? = some (.cells #[v] 113 (0, 0)) := blk_grown hb hg' hgne
  have hRn : Kd.R k110 110 W1 base (fun _ => True) v' (T ++ [⟨n, loose107⟩]) := by
    refine Kd.R_appended (okp := fun k => True ∧ some k ≠ v.ownBlock) h0 hrep ?_ (fun k hk => hk) (fun _ _ => trivial) hown hg' hat
    refine k110_mkM W base _ ⟨n, loose107⟩ (v4 := va) ?_
    refine Kd.R_apart' hva (fun k hk => hvt k hk) (by decide)
  refine ⟨⟨hl, v', blk_set hb1 0 v', Kd.R_set hRn hb1 (by decide) 0 v'⟩, ?_, ?_⟩
  · refine (TFrame.grown (ts := [110, 113]) hg' (fun k hk => ?_)).trans (TFrame.setCell hb1 (by decide) v')
    obtain ⟨cs, hc⟩ := hvt k hk
    exact ⟨cs, _, _, hc, by decide⟩
  · exact ((Below.refl base W).grown hg' hbase (fun k hk => (own_base hown0 k hk).1)).setCell hl _
set_option maxHeartbeats 16000000 in
set_option maxRecDepth 100000 in
theorem make_any (base g : Nat) (W : World) (T : List S110) (n : S59) (An : Option Addr) (cn : Nat) (hT : DomAt base W g T) (hbase : base ≤ W.heap.size) (hC : Kd.C k71 W An n.f4.length n.f4) (hcn : n.f4.length ≤ cn) (hk1 : 1 ≤ n.f0) (hk2 : n.f0 ≤ 4) (hl : T.length ≤ 1000000) (ha : n.f4.length ≤ 1000000) :
    Calls Tryz.prog 21 #[.pointer (some ⟨g, 0, none⟩), .agg #[.int .i64 n.f0, .int .i64 n.f1, .string n.f2, .string n.f3, .slice An n.f4.length cn]] W fun e W' =>
      e = .returned (.int .i64 (T.length : Int)) ∧ DomAt base W' g (T ++ [⟨n, loose107⟩]) ∧ TFrame [110, 113] W W' ∧ Below base W W' := by
  obtain ⟨f0, f1, f2, f3, f4⟩ := n
  simp only at hC hcn hk1 hk2 ha ⊢
  have HT := Aside0.mk hT
  have HB := Aside0.mk hbase
  have HC := Aside0.mk hC
  have HCN := Aside0.mk hcn
  have HL := Aside0.mk hl
  have HA := Aside0.mk ha
  have b1 : decide (f0 < 1) = false := decide_eq_false (by omega)
  have b2 : decide (4 < f0) = false := decide_eq_false (by omega)
  clear hT hbase hC hcn hk1 hk2 hl ha
  go_enter Tryz.func21, Tryz.ntmps21
  go_upto_region 4 with (go_at_call 47; refine (api_Attr.calls _ _ _ f4 _ (Kd.C_alloc HC.out _) HCN.out (by unfold api_Attr.f; rw [if_pos (by have := HA.out; omega)])).mono ?_; rintro e w3 ⟨va, rfl, hR4, hb3⟩; obtain ⟨A5, c5, e5⟩ := Kd.R_slice hR4; subst e5; have hD := blk_below (blk_new W _) hb3; have z4 := (blk_cell hD 4).trans rfl; have y4 := blk_frozen hD 4; have HD := Aside0.mk hD; have HR4 := Aside0.mk hR4; have HB3 := Aside0.mk hb3; clear hD hR4 hb3)
  have hbl : Below W.heap.size W (w3.setCell ⟨W.heap.size, 4, none⟩ (.slice A5 f4.length c5)) := (below_step (below_alloc (Below.refl _ _) _) HB3.out).setCell (Nat.le_refl _) _
  have hD4 := blk_set HD.out 4 (.slice A5 f4.length c5)
  have hva : Kd.R k71 71 (w3.setCell ⟨W.heap.size, 4, none⟩ (.slice A5 f4.length c5)) base (fun _ => True) (.slice A5 f4.length c5) f4 := Kd.R_set (Kd.R_lower HR4.out (by have := HB.out; simp; omega)) HD.out (by decide) 4 _
  clear z4 y4 HD HR4 HB3
  generalize w3.setCell ⟨W.heap.size, 4, none⟩ (.slice A5 f4.length c5) = w4 at hbl hD4 hva ⊢
  have hT4 := HT.out.below hbl
  obtain ⟨hlow, v, hblk, hRv⟩ := hT4
  obtain ⟨Av, cv, ev⟩ := Kd.R_slice hRv
  subst ev
  obtain ⟨h0, inner, hown, hrep⟩ := hRv
  have hsz : base ≤ w4.heap.size := Nat.le_trans HB.out hbl.size
  have HBL := Aside0.mk hbl
  have HD4 := Aside0.mk hD4
  have HVA := Aside0.mk hva
  have HBLK := Aside0.mk hblk
  have H0 := Aside0.mk h0
  have HOWN := Aside0.mk hown
  have HREP := Aside0.mk hrep
  have HLOW := Aside0.mk hlow
  have HSZ := Aside0.mk hsz
  clear hbl hD4 hva hlow hblk h0 hown hrep
  go_cut [] (fun wc => Aside0 (DomAt base wc g (T ++ [⟨⟨f0, f1, f2, f3, f4⟩, loose107⟩])) ∧ Aside0 (TFrame [110, 113] w4 wc) ∧ Aside0 (Below base w4 wc))
  case first =>
    obtain ⟨i0, hi0, hz0, hz1, hz2⟩ := info_parts infoP110
    have cg : w4.cell? ⟨g, 0, none⟩ = some (.slice Av T.length cv) := (blk_cell HBLK.out 0).trans rfl
    have ce : w4.cell? ⟨W.heap.size, 0, none⟩ = some (.int .i64 f0) ∧ w4.cell? ⟨W.heap.size, 1, none⟩ = some (.int .i64 f1) ∧ w4.cell? ⟨W.heap.size, 2, none⟩ = some (.string f2) ∧ w4.cell? ⟨W.heap.size, 3, none⟩ = some (.string f3) ∧ w4.cell? ⟨W.heap.size, 4, none⟩ = some (.slice A5 f4.length c5) :=
      ⟨(blk_cell HD4.out 0).trans rfl, (blk_cell HD4.out 1).trans rfl, (blk_cell HD4.out 2).trans rfl, (blk_cell HD4.out 3).trans rfl, (blk_cell HD4.out 4).trans rfl⟩
    obtain ⟨ce0, ce1, ce2, ce3, ce4⟩ := ce
    have hu110 := Tryz.underlying110
    have hu59 := Tryz.underlying59
    have hu107 := Tryz.underlying107
    have hlen : T.length + 1 ≤ maxLen := by have := HL.out; unfold maxLen; omega
    have hbig : (T.length + 1) * 112 ≤ 140737488355328 := by have := HL.out; omega
    have HNE := Aside0.mk (R_ne_tree HBLK.out (show Kd.R k110 110 w4 base (fun _ => True) (.slice Av T.length cv) T from ⟨H0.out, inner, HOWN.out, HREP.out⟩))
    go_region_law (first
      | ((refine goes_ Tryz.func46 (by kernel_rfl) rfl #[] (by rfl) rfl rfl (by simp) ?_); refine (loose_any _).mono ?_; rintro e w5 ⟨rfl, hb5⟩; refine ⟨_, rfl, ?_⟩; have cg5 := pw_cell_below hb5 cg; have cg5a := fun o => Go.Lib.cell?_alloc_some o cg5; have ce50 := pw_cell_below hb5 ce0; have ce51 := pw_cell_below hb5 ce1; have ce52 := pw_cell_below hb5 ce2; have ce53 := pw_cell_below hb5 ce3; have ce54 := pw_cell_below hb5 ce4; have HB5 := Aside0.mk (show Below w4.heap.size w4 w5 from ⟨hb5.os, hb5.tape, hb5.output, hb5.size, hb5.block⟩); clear hb5; have hR5 := Kd.R_below (show Kd.R k110 110 w4 base (fun _ => True) (.slice Av T.length cv) T from ⟨H0.out, inner, HOWN.out, HREP.out⟩) HB5.out; obtain ⟨h05, inner5, hown5, hrep5⟩ := hR5; have H05 := Aside0.mk h05; have HOWN5 := Aside0.mk hown5; have HREP5 := Aside0.mk hrep5; have HSZ5 := Aside0.mk (Nat.le_trans HSZ.out HB5.out.size); have hsz5 := HSZ5.out; clear h05 hown5 hrep5 cg ce0 ce1 ce2 ce3 ce4)
      | (refine step_append_lies _ (by rfl) (.tmp 25) (.tmp 29) 111 (by rfl) base 110 i0 _ 10 112 Tryz.underlying111 hi0 hz0 hz1 hz2 rfl (by omega) (.slice Av T.length cv) T.length inner5 (by rfl) (HOWN5.out.alloc _) ⟨w5.heap.size, 0, none⟩ 1 1 (nodeCells ⟨f0, f1, f2, f3, f4⟩ (.slice A5 f4.length c5)) (by rfl) (by rfl) (World.news_of_block (cs := (nodeCells ⟨f0, f1, f2, f3, f4⟩ (.slice A5 f4.length c5)).toArray) (t := 110) (fr := (0, 0)) (heap_alloc_new _ _)) (by simp [nodeCells, Value.oneCell']) (by omega) hlen hbig (by simp; omega) (w5.heap.size + 1) (by simp) ?_; intro gg cap w1 hown1 hgrow hat hltg; have bW := blk_grown (blk_alloc (blk_below HBLK.out HB5.out) _) hgrow HNE.out; have cW := (blk_cell bW 0).trans rfl; have fW := blk_frozen bW 0; have HO1 := Aside0.mk hown1; have HG1 := Aside0.mk hgrow; have HAT := Aside0.mk hat; clear hown1 hgrow hat bW))
    all_goals
      go_wp2
      go_meet
      case rel =>
        have hp := make_parts (n := ⟨f0, f1, f2, f3, f4⟩) (blk_below HBLK.out HB5.out) HLOW.out HSZ5.out H05.out HOWN5.out HREP5.out (Kd.R_below HVA.out HB5.out) HO1.out HG1.out (HAT.out.elim (fun h1 => .inl h1.symm) (fun h1 => .inr ⟨_, rfl, by subst h1; exact Nat.le_succ _⟩))
        exact ⟨⟨hp.1⟩, ⟨(TFrame.of_below HB5.out).trans hp.2.1⟩, ⟨Below.trans (HB5.out.mono HSZ.out) hp.2.2⟩⟩
  case rest =>
    obtain ⟨HTc, HFc, HBc⟩ := hcut
    obtain ⟨hlowc, vc, hblkc, hRc⟩ := HTc.out
    obtain ⟨Ac, cc, ec⟩ := Kd.R_slice hRc
    subst ec
    have cgc := (blk_cell hblkc 0).trans rfl
    rw [List.length_append, List.length_singleton] at cgc
    have hw : wrap64 (((T.length + 1 : Nat) : Int) - 1) = (T.length : Int) := by have := HL.out; unfold wrap64; omega
    clear hblkc hRc hlowc
    go_wp2
    go_ret
    refine ⟨?_, HTc.out, (TFrame.of_below HBL.out).trans HFc.out, Below.trans (HBL.out.mono HB.out) HBc.out⟩
    have hw2 : wrap64 (T.length : Int) = (T.length : Int) := by have := HL.out; unfold wrap64; omega
    rw [hw2]
    rfl
end Go.Proofs.YtomdidopflebjaaGreatDoor.PM
namespace Go.Proofs.YtomdidopflebjaaGreatDoor.PM
open Go.RowKit Go.Proofs.YtomdidopflebjaaGreatDoorW.PrintWords Go.Proofs.YtomdidopflebjaaGreatDoorW.PrintLast Go.Proofs.YtomdidopflebjaaGreatDoorW.PrintMore
def getLk (x : S110) (q : Nat) : Int := match q with
  | 0 => x.f1.f0
  | 1 => x.f1.f1
  | 2 => x.f1.f2
  | 3 => x.f1.f3
  | _ => x.f1.f4
def setLk (x : S110) (q : Nat) (v : Int) : S110 := match q with
  | 0 => ⟨x.f0, ⟨v, x.f1.f1, x.f1.f2, x.f1.f3, x.f1.f4⟩⟩
  | 1 => ⟨x.f0, ⟨x.f1.f0, v, x.f1.f2, x.f1.f3, x.f1.f4⟩⟩
  | 2 => ⟨x.f0, ⟨x.f1.f0, x.f1.f1, v, x.f1.f3, x.f1.f4⟩⟩
  | 3 => ⟨x.f0, ⟨x.f1.f0, x.f1.f1, x.f1.f2, v, x.f1.f4⟩⟩
  | _ => ⟨x.f0, ⟨x.f1.f0, x.f1.f1, x.f1.f2, x.f1.f3, v⟩⟩
def putLk (T : List S110) (i q : Nat) (v : Int) : List S110 := T.set i (setLk (rd_T110 T (i : Int)) q v)
theorem putLk_length (T : List S110) (i q : Nat) (v : Int) : (putLk T i q v).length = T.length := List.length_set ..
/-- A tree with a row: where the row stands. -/
structure DomRow (base : Nat) (W : World) (g b cv : Nat) (T : List S110) : Prop where
  low : base ≤ g
  blk : W.heap[g]? = some (.cells #[.slice (some ⟨b, 0, none⟩) T.length cv] 113 (0, 0))
  row : Kd.R k110 110 W base (fun _ => True) (.slice (some ⟨b, 0, none⟩) T.length cv) T
theorem DomAt.rowOf {base g : Nat} {W : World} {T : List S110} (h : DomAt base W g T) (hT : 0 < T.length) : ∃ b cv, DomRow base W g b cv T := by
  obtain ⟨hl, v, hb, hr⟩ := h
  obtain ⟨_, inner, hown, hrep⟩ := hr
  rcases hown.2 with ⟨_, hn⟩ | ⟨b, cv, _, rfl, _⟩
  · omega
  exact ⟨b, cv, hl, hb, ⟨fun _ _ => trivial, inner, hown, hrep⟩⟩
theorem DomRow.at {base g b cv : Nat} {W : World} {T : List S110} (h : DomRow base W g b cv T) : DomAt base W g T := ⟨h.low, _, h.blk, h.row⟩
theorem DomRow.below {base g b cv : Nat} {w w' : World} {T : List S110} (h : DomRow base w g b cv T) (hb : Below w.heap.size w w') : DomRow base w' g b cv T :=
  ⟨h.low, blk_below h.blk hb, Kd.R_below h.row hb⟩
theorem DomRow.ne {base g b cv : Nat} {W : World} {T : List S110} (h : DomRow base W g b cv T) : g ≠ b := fun e => by
  obtain ⟨cs, hc⟩ := Kd.R_typed h.row b rfl
  rw [← e, h.blk] at hc
  injection hc with hc
  injection hc with _ hc
  exact absurd hc (by decide)
theorem DomRow.base {base g b cv : Nat} {W : World} {T : List S110} (h : DomRow base W g b cv T) : base ≤ b := Kd.R_base h.row b (by simp [Value.ownBlock])
theorem DomRow.cells {base g b cv : Nat} {W : World} {T : List S110} (h : DomRow base W g b cv T) (i : Nat) (hi : i < T.length) :
    ∃ v4, Kd.R k71 71 W base (fun k => True ∧ k ≠ b) v4 (rd_T110 T i).f0.f4 ∧ ∀ j u, [Value.int .i64 (rd_T110 T i).f0.f0, .int .i64 (rd_T110 T i).f0.f1, .string (rd_T110 T i).f0.f2, .string (rd_T110 T i).f0.f3, v4, .int .i64 (rd_T110 T i).f1.f0, .int .i64 (rd_T110 T i).f1.f1, .int .i64 (rd_T110 T i).f1.f2, .int .i64 (rd_T110 T i).f1.f3, .int .i64 (rd_T110 T i).f1.f4][j]? = some u → W.cell? ⟨b, i * 10 + j, none⟩ = some u := by
  obtain ⟨c, hcl, hM, hcc, _⟩ := Kd.R_elem h.row z110 (i : Int) (by omega) (by omega)
  obtain ⟨v4, rfl, hv4⟩ := k110_openM hM
  exact ⟨v4, hv4, fun j u hj => hcc j u hj⟩
theorem DomRow.frozen {base g b cv : Nat} {W : World} {T : List S110} (h : DomRow base W g b cv T) (j : Nat) : W.frozen? ⟨b, j, none⟩ = false := by
  obtain ⟨cs, hc⟩ := Kd.R_typed h.row b rfl
  exact blk_frozen hc _
theorem DomRow.lk {base g b cv : Nat} {W : World} {T : List S110} (h : DomRow base W g b cv T) (i : Nat) (hi : i < T.length) :
    W.cell? ⟨b, i * 10 + 5, none⟩ = some (.int .i64 (rd_T110 T i).f1.f0) ∧ W.cell? ⟨b, i * 10 + 6, none⟩ = some (.int .i64 (rd_T110 T i).f1.f1) ∧ W.cell? ⟨b, i * 10 + 7, none⟩ = some (.int .i64 (rd_T110 T i).f1.f2) ∧ W.cell? ⟨b, i * 10 + 8, none⟩ = some (.int .i64 (rd_T110 T i).f1.f3) ∧ W.cell? ⟨b, i * 10 + 9, none⟩ = some (.int .i64 (rd_T110 T i).f1.f4) := by
  obtain ⟨v4, _, hc⟩ := h.cells i hi
  exact ⟨hc 5 _ rfl, hc 6 _ rfl, hc 7 _ rfl, hc 8 _ rfl, hc 9 _ rfl⟩
theorem DomRow.put {base g b cv : Nat} {W : World} {T : List S110} (h : DomRow base W g b cv T) (i : Nat) (hi : i < T.length) (q : Nat) (hq : q < 5) (v : Int) :
    DomRow base (W.setCell ⟨b, i * 10 + (5 + q), none⟩ (.int .i64 v)) g b cv (putLk T i q v) := by
  obtain ⟨c, hcl, hM, hcc, _⟩ := Kd.R_elem h.row z110 (i : Int) (by omega) (by omega)
  obtain ⟨v4, rfl, hv4⟩ := k110_openM hM
  have hM2 : k110.M W base (fun k => True ∧ k ≠ b) (setLk (rd_T110 T i) q v) ([Value.int .i64 (rd_T110 T i).f0.f0, .int .i64 (rd_T110 T i).f0.f1, .string (rd_T110 T i).f0.f2, .string (rd_T110 T i).f0.f3, v4, .int .i64 (rd_T110 T i).f1.f0, .int .i64 (rd_T110 T i).f1.f1, .int .i64 (rd_T110 T i).f1.f2, .int .i64 (rd_T110 T i).f1.f3, .int .i64 (rd_T110 T i).f1.f4].take (5 + q) ++ [.int .i64 v] ++ [Value.int .i64 (rd_T110 T i).f0.f0, .int .i64 (rd_T110 T i).f0.f1, .string (rd_T110 T i).f0.f2, .string (rd_T110 T i).f0.f3, v4, .int .i64 (rd_T110 T i).f1.f0, .int .i64 (rd_T110 T i).f1.f1, .int .i64 (rd_T110 T i).f1.f2, .int .i64 (rd_T110 T i).f1.f3, .int .i64 (rd_T110 T i).f1.f4].drop (5 + q + 1)) := by
    match q, hq with
    | 0, _ => exact k110_mkM W base _ (setLk (rd_T110 T i) 0 v) hv4
    | 1, _ => exact k110_mkM W base _ (setLk (rd_T110 T i) 1 v) hv4
    | 2, _ => exact k110_mkM W base _ (setLk (rd_T110 T i) 2 v) hv4
    | 3, _ => exact k110_mkM W base _ (setLk (rd_T110 T i) 3 v) hv4
    | 4, _ => exact k110_mkM W base _ (setLk (rd_T110 T i) 4 v) hv4
  obtain ⟨h1, _⟩ := Kd.R_seg h.row (i : Int) (by omega) (by omega) (seg := [.int .i64 v]) (j := 5 + q) hcl hcc (by show 5 + q + 1 ≤ 10; omega) hM2 (fun k hk => hk)
  refine ⟨h.low, ?_, ?_⟩
  · rw [putLk_length]
    exact blk_far h.blk h.ne (p := ⟨b, i * 10 + (5 + q), none⟩) _
  · rw [putLk_length]
    exact h1
theorem DomRow.putFrame {base g b cv : Nat} {W : World} {T : List S110} (h : DomRow base W g b cv T) (j : Nat) (v : Value) : TFrame [110, 113] W (W.setCell ⟨b, j, none⟩ v) := by
  obtain ⟨cs, hc⟩ := Kd.R_typed h.row b rfl
  exact TFrame.setCell hc (by decide) v
end Go.Proofs.YtomdidopflebjaaGreatDoor.PM
namespace Go.Proofs.YtomdidopflebjaaGreatDoor.PM
open Go.RowKit Go.Proofs.YtomdidopflebjaaGreatDoorW.PrintWords Go.Proofs.YtomdidopflebjaaGreatDoorW.PrintLast Go.Proofs.YtomdidopflebjaaGreatDoorW.PrintMore
set_option maxHeartbeats 4000000 in
set_option maxRecDepth 100000 in
theorem cut_none (base g b cv : Nat) (W : World) (T : List S110) (i : Nat) (hT : DomRow base W g b cv T) (hi : i < T.length) (hn : (rd_T110 T i).f1.f0 = -1) :
    Calls Tryz.prog 51 #[.pointer (some ⟨g, 0, none⟩), .int .i64 (i : Int)] W fun e W' => e = .returned (.tuple #[]) ∧ Below W.heap.size W W' := by
  have cg : W.cell? ⟨g, 0, none⟩ = some (.slice (some ⟨b, 0, none⟩) T.length cv) := (blk_cell hT.blk 0).trans rfl
  obtain ⟨c5, _⟩ := hT.lk i hi
  rw [hn] at c5
  have HT := Aside0.mk hT
  clear hT
  have i0 : (0 : Int) ≤ (i : Int) := by omega
  have i1 : ((i : Int) < (T.length : Int)) := by omega
  go_enter Tryz.func51, Tryz.ntmps51
  go_wp2
  exact bodyPost_ret (v := .tuple #[]) (by simp [results, Tryz.results51, go_sem]) rfl ⟨rfl, Below.refl _ _⟩
def layLk (T : List S110) (n p : Nat) : List S110 :=
  if (rd_T110 T p).f1.f2 = -1 then putLk (putLk (putLk (putLk (putLk T n 0 p) n 4 (-1)) n 3 (rd_T110 T p).f1.f2) p 2 n) p 1 n
  else putLk (putLk (putLk (putLk (putLk T n 0 p) n 4 (-1)) n 3 (rd_T110 T p).f1.f2) p 2 n) (rd_T110 T p).f1.f2.toNat 4 n
set_option maxHeartbeats 8000000 in
set_option maxRecDepth 100000 in
theorem lay_last (base g b cv : Nat) (W : World) (T : List S110) (n p : Nat) (hT : DomRow base W g b cv T) (hn : n < T.length) (hp : p < T.length) (hl : (rd_T110 T p).f1.f2 = -1 ∨ (0 ≤ (rd_T110 T p).f1.f2 ∧ (rd_T110 T p).f1.f2 < (T.length : Int))) :
    Calls Tryz.prog 52 #[.pointer (some ⟨g, 0, none⟩), .int .i64 (n : Int), .int .i64 (p : Int), .int .i64 (-1)] W fun e W' => e = .returned (.tuple #[]) ∧ DomRow base W' g b cv (layLk T n p) ∧ TFrame [110, 113] W W' ∧ Below base W W' := by
  have cg : W.cell? ⟨g, 0, none⟩ = some (.slice (some ⟨b, 0, none⟩) T.length cv) := (blk_cell hT.blk 0).trans rfl
  have hgb := hT.ne
  have hbg : ¬ (b = g) := fun e => hgb e.symm
  have HT := Aside0.mk hT
  clear hT
  have i0 : (0 : Int) ≤ (n : Int) := by omega
  have i1 : ((n : Int) < (T.length : Int)) := by omega
  have j0 : (0 : Int) ≤ (p : Int) := by omega
  have j1 : ((p : Int) < (T.length : Int)) := by omega
  go_enter Tryz.func52, Tryz.ntmps52
  go_upto_region 0 with (fail)
  go_region
  have hb1 : Below W.heap.size W W.drew := below_drew1 (Below.refl _ _)
  have HT1 := Aside0.mk (HT.out.below hb1)
  generalize W.drew = w1 at HT1 hb1 ⊢
  clear cg
  have HB1 := Aside0.mk hb1
  clear hb1
  have cg : w1.cell? ⟨g, 0, none⟩ = some (.slice (some ⟨b, 0, none⟩) T.length cv) := (blk_cell HT1.out.blk 0).trans rfl
  obtain ⟨n5, n6, n7, n8, n9⟩ := HT1.out.lk n hn
  obtain ⟨p5, p6, p7, p8, p9⟩ := HT1.out.lk p hp
  have hfr : ∀ j, w1.frozen? ⟨b, j, none⟩ = false := HT1.out.frozen
  have HN := Aside0.mk hn
  have HP := Aside0.mk hp
  have h1 := HT1.out.put n hn 0 (by decide) p
  have h2 := h1.put n (by rw [putLk_length]; exact hn) 4 (by decide) (-1)
  have h3 := h2.put n (by rw [putLk_length, putLk_length]; exact hn) 3 (by decide) (rd_T110 T p).f1.f2
  have h4 := h3.put p (by rw [putLk_length, putLk_length, putLk_length]; exact hp) 2 (by decide) n
  have H4 : Aside0 (DomRow base ((((w1.setCell ⟨b, n * 10 + 5, none⟩ (.int .i64 p)).setCell ⟨b, n * 10 + 9, none⟩ (.int .i64 (-1))).setCell ⟨b, n * 10 + 8, none⟩ (.int .i64 (rd_T110 T p).f1.f2)).setCell ⟨b, p * 10 + 7, none⟩ (.int .i64 n)) g b cv (putLk (putLk (putLk (putLk T n 0 p) n 4 (-1)) n 3 (rd_T110 T p).f1.f2) p 2 n)) := ⟨h4⟩
  have F4 : Aside0 (TFrame [110, 113] w1 ((((w1.setCell ⟨b, n * 10 + 5, none⟩ (.int .i64 p)).setCell ⟨b, n * 10 + 9, none⟩ (.int .i64 (-1))).setCell ⟨b, n * 10 + 8, none⟩ (.int .i64 (rd_T110 T p).f1.f2)).setCell ⟨b, p * 10 + 7, none⟩ (.int .i64 n))) := ⟨((((HT1.out.putFrame (n * 10 + (5 + 0)) (.int .i64 p)).trans (h1.putFrame (n * 10 + (5 + 4)) (.int .i64 (-1)))).trans (h2.putFrame (n * 10 + (5 + 3)) (.int .i64 (rd_T110 T p).f1.f2))).trans (h3.putFrame (p * 10 + (5 + 2)) (.int .i64 n)))⟩
  have B4 : Aside0 (Below base w1 ((((w1.setCell ⟨b, n * 10 + 5, none⟩ (.int .i64 p)).setCell ⟨b, n * 10 + 9, none⟩ (.int .i64 (-1))).setCell ⟨b, n * 10 + 8, none⟩ (.int .i64 (rd_T110 T p).f1.f2)).setCell ⟨b, p * 10 + 7, none⟩ (.int .i64 n))) := ⟨(((((Below.refl base w1).setCell (p := ⟨b, n * 10 + 5, none⟩) HT1.out.base (.int .i64 p)).setCell (p := ⟨b, n * 10 + 9, none⟩) HT1.out.base (.int .i64 (-1))).setCell (p := ⟨b, n * 10 + 8, none⟩) HT1.out.base (.int .i64 (rd_T110 T p).f1.f2)).setCell (p := ⟨b, p * 10 + 7, none⟩) HT1.out.base (.int .i64 n))⟩
  have HB := Aside0.mk (show base ≤ W.heap.size from Nat.le_trans HT.out.low (Nat.le_of_lt (blk_lt HT.out.blk)))
  clear h1 h2 h3 h4 hn hp n6 n7 p5 p8 p9
  generalize hlst : (rd_T110 T p).f1.f2 = last at hl p7 H4 F4 B4
  have HLST := Aside0.mk hlst
  clear hlst
  rcases hl with rfl | ⟨l0, l1⟩
  · go_wp2
    go_end0
    refine ⟨rfl, ?_, (TFrame.of_below HB1.out).trans (F4.out.trans (H4.out.putFrame _ _)), Below.trans (HB1.out.mono HB.out) (B4.out.setCell HT1.out.base _)⟩
    unfold layLk
    rw [if_pos HLST.out, HLST.out]
    exact H4.out.put p (by simp only [putLk_length]; exact HP.out) 1 (by decide) n
  · have hne1 : ¬ (last = -1) := by omega
    have HNE1 := Aside0.mk hne1
    have hlr : (last.toNat : Int) = last := by omega
    have H4L := Aside0.mk (H4.out.lk last.toNat (by simp only [putLk_length]; omega))
    have H4N := Aside0.mk (H4.out.lk n (by simp only [putLk_length]; exact HN.out))
    go_wp2
    have hx8 : ((((w1.setCell ⟨b, n * 10 + 5, none⟩ (.int .i64 p)).setCell ⟨b, n * 10 + 9, none⟩ (.int .i64 (-1))).setCell ⟨b, n * 10 + 8, none⟩ (.int .i64 last)).setCell ⟨b, p * 10 + 7, none⟩ (.int .i64 n)).cell? ⟨b, n * 10 + 8, none⟩ = some (.int .i64 last) := by
      refine (World.cell?_setCell_other _ _ _ _ (fun e => ?_)).trans (World.cell?_setCell_same _ _ _ (u := .int .i64 (rd_T110 T n).f1.f3) ((World.cell?_setCell_other _ _ _ _ (fun e => ?_)).trans ((World.cell?_setCell_other _ _ _ _ (fun e => ?_)).trans n8)))
      all_goals
        injection e with _ e _
        omega
    generalize ((((w1.setCell ⟨b, n * 10 + 5, none⟩ (.int .i64 p)).setCell ⟨b, n * 10 + 9, none⟩ (.int .i64 (-1))).setCell ⟨b, n * 10 + 8, none⟩ (.int .i64 last)).setCell ⟨b, p * 10 + 7, none⟩ (.int .i64 n)) = w4 at H4 F4 B4 H4L H4N hx8 ⊢
    clear n5 n8 n9 p6 p7 hfr cg hne1 hlr
    have cg : w4.cell? ⟨g, 0, none⟩ = some (.slice (some ⟨b, 0, none⟩) T.length cv) := by
      have h := H4.out.blk
      simp only [putLk_length] at h
      exact (blk_cell h 0).trans rfl
    have l9 := H4L.out.2.2.2.2
    have hfr : ∀ j, w4.frozen? ⟨b, j, none⟩ = false := H4.out.frozen
    go_region
    go_wp2
    go_end0
    have hput := H4.out.put last.toNat (by simp only [putLk_length]; omega) 4 (by decide) n
    have hfrm := H4.out.putFrame (last.toNat * 10 + 5 + 4) (.int .i64 n)
    have hbl := B4.out.setCell (p := ⟨b, last.toNat * 10 + 5 + 4, none⟩) HT1.out.base (.int .i64 n)
    have hdr : ∀ w : World, Below w.heap.size w w.drew := fun w => below_drew1 (Below.refl _ _)
    refine ⟨rfl, ?_, (TFrame.of_below HB1.out).trans (F4.out.trans (hfrm.trans (TFrame.of_below (hdr _)))), Below.trans (HB1.out.mono HB.out) (below_drew1 hbl)⟩
    unfold layLk
    rw [HLST.out, if_neg HNE1.out]
    exact hput.below (hdr _)
end Go.Proofs.YtomdidopflebjaaGreatDoor.PM
