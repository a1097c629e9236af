/- Written by a program of this session out of the translation: plain functions of the Go functions here and the contracts that tie them to the code; no condition beside those in each statement. -/
import Derived.Test.YtnfjohpecedpnaaGreatDoorPMx0
import Derived.Test.YtnfjohpecedpnaaGreatDoorHDays
import Derived.Test.YtnfjohpecedpnaaGreatDoorHValid
import Derived.Test.YtnfjohpecedpnaaGreatDoorGlob
namespace Go.Proofs.YtnfjohpecedpnaaGreatDoor.PM
open Go.RowKit Go.Proofs.YtnfjohpecedpnaaGreatDoorW.PrintWords Go.Proofs.YtnfjohpecedpnaaGreatDoorW.PrintLast Go.Proofs.YtnfjohpecedpnaaGreatDoorW.PrintMore Go.Proofs.YtnfjohpecedpnaaGreatDoor.Glob
attribute [local go_sem] max2_int min2_int max_two min_two max_three min_three max_four min_four   -- for this text's walks alone
set_option linter.unusedVariables false
set_option linter.unusedSimpArgs false

/-! ### beadlelaw18_speaks: function 6 -/
def beadlelaw18_speaks.f  : Option (Bool) := (micro_Valid.f (⟨#[119, 104, 101, 110]⟩ : ByteArray) (⟨#[50, 48, 50, 52, 45, 48, 50, 45, 50, 57, 84, 50, 51, 58, 53, 57, 90]⟩ : ByteArray)).bind fun t196 => (if t196 = true then ((micro_Valid.f (⟨#[119, 104, 101, 110]⟩ : ByteArray) (⟨#[50, 48, 50, 51, 45, 48, 50, 45, 50, 57]⟩ : ByteArray)).bind fun t197 => (if t197 = true then (some false) else ((micro_Days.f 2024 2).bind fun t198 => (some (t198 == 29))))) else (some false))
set_option maxHeartbeats 8000000 in
set_option maxRecDepth 100000 in
theorem beadlelaw18_speaks.calls  (r : Bool) (w : World) (hG : GW w) (h : beadlelaw18_speaks.f  = some r) :
    Calls Tryz.prog 6 #[] w fun e w' => e = .returned (.bool r) ∧ Below w.heap.size w w' := by
  have HG := Aside0.mk hG
  clear hG
  have HB := Aside0.mk (Below.refl w.heap.size w)
  have H : ((micro_Valid.f (⟨#[119, 104, 101, 110]⟩ : ByteArray) (⟨#[50, 48, 50, 52, 45, 48, 50, 45, 50, 57, 84, 50, 51, 58, 53, 57, 90]⟩ : ByteArray)).bind fun t196 => (if t196 = true then ((micro_Valid.f (⟨#[119, 104, 101, 110]⟩ : ByteArray) (⟨#[50, 48, 50, 51, 45, 48, 50, 45, 50, 57]⟩ : ByteArray)).bind fun t197 => (if t197 = true then (some false) else ((micro_Days.f 2024 2).bind fun t198 => (some (t198 == 29))))) else (some false))) = some r := h
  clear h
  replace H := Option.bind_eq_some_iff.mp H
  obtain ⟨t196, A10, H⟩ := H
  replace H : (if t196 = true then ((micro_Valid.f (⟨#[119, 104, 101, 110]⟩ : ByteArray) (⟨#[50, 48, 50, 51, 45, 48, 50, 45, 50, 57]⟩ : ByteArray)).bind fun t197 => (if t197 = true then (some false) else ((micro_Days.f 2024 2).bind fun t198 => (some (t198 == 29))))) else (some false)) = some r := H
  have A1 := Aside0.mk A10
  clear A10
  by_cases c2 : t196 = true
  · subst c2
    have H1 : ((micro_Valid.f (⟨#[119, 104, 101, 110]⟩ : ByteArray) (⟨#[50, 48, 50, 51, 45, 48, 50, 45, 50, 57]⟩ : ByteArray)).bind fun t197 => (if t197 = true then (some false) else ((micro_Days.f 2024 2).bind fun t198 => (some (t198 == 29))))) = some r := by rw [if_pos rfl] at H; exact H
    clear H
    have H := H1
    clear H1
    replace H := Option.bind_eq_some_iff.mp H
    obtain ⟨t197, A30, H⟩ := H
    replace H : (if t197 = true then (some false) else ((micro_Days.f 2024 2).bind fun t198 => (some (t198 == 29)))) = some r := H
    have A3 := Aside0.mk A30
    clear A30
    by_cases c4 : t197 = true
    · subst c4
      have H1 : (some false) = some r := by rw [if_pos rfl] at H; exact H
      clear H
      have H := H1
      clear H1
      obtain rfl := Option.some.inj H
      go_enter Tryz.func6, Tryz.ntmps6
      go_wp2_with (first | ((with_reducible refine gate_callee (f := 7) rfl ?_); refine goesL_ (some 1) rfl rfl Tryz.func7 (by kernel_rfl) rfl #[.string (⟨#[119, 104, 101, 110]⟩ : ByteArray), .string (⟨#[50, 48, 50, 52, 45, 48, 50, 45, 50, 57, 84, 50, 51, 58, 53, 57, 90]⟩ : ByteArray)] rfl (by (try simp only [List.map_toArray, List.map_cons, List.map_nil]); first | done | rfl | (simp only [List.length_drop, List.length_take]; rfl)) ?_; (with_reducible refine (micro_Valid.calls (⟨#[119, 104, 101, 110]⟩ : ByteArray) (⟨#[50, 48, 50, 52, 45, 48, 50, 45, 50, 57, 84, 50, 51, 58, 53, 57, 90]⟩ : ByteArray) true _ (by repeat (first | exact GW.below HG.out HB.out | exact HG.out | (with_reducible refine GW.alloc ?_ _) | (with_reducible refine GW.drewN ?_ _) | (with_reducible refine GW.drew ?_))) A1.out).mono ?_); rintro e w5 ⟨rfl, hb⟩; refine ⟨_, rfl, ?_⟩; have n0_ := Aside0.mk (below_step (by repeat (first | (with_reducible first | exact HB.out | apply below_alloc | apply pw_below_drewN | apply below_drew1) | exact HB.out)) hb); clear HB; have HB := n0_; clear n0_; (try clear hb); (try clear hb2); (try clear hk); (try clear hi)) | (go_at_call 7; (with_reducible refine (micro_Valid.calls (⟨#[119, 104, 101, 110]⟩ : ByteArray) (⟨#[50, 48, 50, 51, 45, 48, 50, 45, 50, 57]⟩ : ByteArray) true _ (by repeat (first | exact GW.below HG.out HB.out | exact HG.out | (with_reducible refine GW.alloc ?_ _) | (with_reducible refine GW.drewN ?_ _) | (with_reducible refine GW.drew ?_))) A3.out).mono ?_); rintro e w6 ⟨rfl, hb⟩; have n0_ := Aside0.mk (below_step (by repeat (first | (with_reducible first | exact HB.out | apply below_alloc | apply pw_below_drewN | apply below_drew1) | exact HB.out)) hb); clear HB; have HB := n0_; clear n0_; (try clear hb); (try clear hb2); (try clear hk); (try clear hi)))
      go_ret
      exact ⟨by first | rfl | (simp [errW_none, errW_some] <;> rfl) | (simp [*, errW_none, errW_some] <;> rfl), by repeat (first | (with_reducible first | exact HB.out | apply below_alloc | apply pw_below_drewN | apply below_drew1) | exact HB.out)⟩
    · replace c4 := Bool.eq_false_iff.mpr c4
      subst c4
      have H1 : ((micro_Days.f 2024 2).bind fun t198 => (some (t198 == 29))) = some r := by rw [if_neg (show ¬ (false = true) by decide)] at H; exact H
      clear H
      have H := H1
      clear H1
      replace H := Option.bind_eq_some_iff.mp H
      obtain ⟨t198, A70, H⟩ := H
      replace H : (some (t198 == 29)) = some r := H
      have A7 := Aside0.mk A70
      clear A70
      obtain rfl := Option.some.inj H
      go_enter Tryz.func6, Tryz.ntmps6
      go_wp2_with (first | ((with_reducible refine gate_callee (f := 7) rfl ?_); refine goesL_ (some 1) rfl rfl Tryz.func7 (by kernel_rfl) rfl #[.string (⟨#[119, 104, 101, 110]⟩ : ByteArray), .string (⟨#[50, 48, 50, 52, 45, 48, 50, 45, 50, 57, 84, 50, 51, 58, 53, 57, 90]⟩ : ByteArray)] rfl (by (try simp only [List.map_toArray, List.map_cons, List.map_nil]); first | done | rfl | (simp only [List.length_drop, List.length_take]; rfl)) ?_; (with_reducible refine (micro_Valid.calls (⟨#[119, 104, 101, 110]⟩ : ByteArray) (⟨#[50, 48, 50, 52, 45, 48, 50, 45, 50, 57, 84, 50, 51, 58, 53, 57, 90]⟩ : ByteArray) true _ (by repeat (first | exact GW.below HG.out HB.out | exact HG.out | (with_reducible refine GW.alloc ?_ _) | (with_reducible refine GW.drewN ?_ _) | (with_reducible refine GW.drew ?_))) A1.out).mono ?_); rintro e w8 ⟨rfl, hb⟩; refine ⟨_, rfl, ?_⟩; have n0_ := Aside0.mk (below_step (by repeat (first | (with_reducible first | exact HB.out | apply below_alloc | apply pw_below_drewN | apply below_drew1) | exact HB.out)) hb); clear HB; have HB := n0_; clear n0_; (try clear hb); (try clear hb2); (try clear hk); (try clear hi)) | (go_at_call 7; (with_reducible refine (micro_Valid.calls (⟨#[119, 104, 101, 110]⟩ : ByteArray) (⟨#[50, 48, 50, 51, 45, 48, 50, 45, 50, 57]⟩ : ByteArray) false _ (by repeat (first | exact GW.below HG.out HB.out | exact HG.out | (with_reducible refine GW.alloc ?_ _) | (with_reducible refine GW.drewN ?_ _) | (with_reducible refine GW.drew ?_))) A3.out).mono ?_); rintro e w9 ⟨rfl, hb⟩; have n0_ := Aside0.mk (below_step (by repeat (first | (with_reducible first | exact HB.out | apply below_alloc | apply pw_below_drewN | apply below_drew1) | exact HB.out)) hb); clear HB; have HB := n0_; clear n0_; (try clear hb); (try clear hb2); (try clear hk); (try clear hi)) | (go_at_call 11; (with_reducible refine (micro_Days.calls 2024 2 t198 _ A7.out).mono ?_); rintro e w10 ⟨rfl, hb⟩; have n0_ := Aside0.mk (below_step (by repeat (first | (with_reducible first | exact HB.out | apply below_alloc | apply pw_below_drewN | apply below_drew1) | exact HB.out)) hb); clear HB; have HB := n0_; clear n0_; (try clear hb); (try clear hb2); (try clear hk); (try clear hi)))
      go_ret
      exact ⟨by first | rfl | (simp [errW_none, errW_some] <;> rfl) | (simp [*, errW_none, errW_some] <;> rfl), by repeat (first | (with_reducible first | exact HB.out | apply below_alloc | apply pw_below_drewN | apply below_drew1) | exact HB.out)⟩
  · replace c2 := Bool.eq_false_iff.mpr c2
    subst c2
    have H1 : (some false) = some r := by rw [if_neg (show ¬ (false = true) by decide)] at H; exact H
    clear H
    have H := H1
    clear H1
    obtain rfl := Option.some.inj H
    go_enter Tryz.func6, Tryz.ntmps6
    go_wp2_with (first | ((with_reducible refine gate_callee (f := 7) rfl ?_); refine goesL_ (some 1) rfl rfl Tryz.func7 (by kernel_rfl) rfl #[.string (⟨#[119, 104, 101, 110]⟩ : ByteArray), .string (⟨#[50, 48, 50, 52, 45, 48, 50, 45, 50, 57, 84, 50, 51, 58, 53, 57, 90]⟩ : ByteArray)] rfl (by (try simp only [List.map_toArray, List.map_cons, List.map_nil]); first | done | rfl | (simp only [List.length_drop, List.length_take]; rfl)) ?_; (with_reducible refine (micro_Valid.calls (⟨#[119, 104, 101, 110]⟩ : ByteArray) (⟨#[50, 48, 50, 52, 45, 48, 50, 45, 50, 57, 84, 50, 51, 58, 53, 57, 90]⟩ : ByteArray) false _ (by repeat (first | exact GW.below HG.out HB.out | exact HG.out | (with_reducible refine GW.alloc ?_ _) | (with_reducible refine GW.drewN ?_ _) | (with_reducible refine GW.drew ?_))) A1.out).mono ?_); rintro e w11 ⟨rfl, hb⟩; refine ⟨_, rfl, ?_⟩; have n0_ := Aside0.mk (below_step (by repeat (first | (with_reducible first | exact HB.out | apply below_alloc | apply pw_below_drewN | apply below_drew1) | exact HB.out)) hb); clear HB; have HB := n0_; clear n0_; (try clear hb); (try clear hb2); (try clear hk); (try clear hi)))
    go_ret
    exact ⟨by first | rfl | (simp [errW_none, errW_some] <;> rfl) | (simp [*, errW_none, errW_some] <;> rfl), by repeat (first | (with_reducible first | exact HB.out | apply below_alloc | apply pw_below_drewN | apply below_drew1) | exact HB.out)⟩

end Go.Proofs.YtnfjohpecedpnaaGreatDoor.PM
