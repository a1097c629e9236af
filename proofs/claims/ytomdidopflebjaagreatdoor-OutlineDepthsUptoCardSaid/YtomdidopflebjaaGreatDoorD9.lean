/- Merged by a program of this session out of its own texts: PMx10, HDepth, PMx19, Opens, AskOutlineDepths, Speaks, Secs, PureOutlineDepths. No condition beside those in each statement. -/
import Derived.Carry
import Derived.ChangeArms
import Derived.ChangeOld
import Derived.Deep.Slices
import Derived.JoinedCond
import Derived.KernelRfl
import Derived.LaidLaws
import Derived.OpenShut
import Derived.ProofKit
import Derived.SizedLaws
import Derived.Stop.Joined
import Derived.Test.YtomdidopflebjaaGreatDoorD1
import Derived.Test.YtomdidopflebjaaGreatDoorD2
import Derived.Test.YtomdidopflebjaaGreatDoorD3
import Derived.Test.YtomdidopflebjaaGreatDoorD8
import Derived.Test.YtomdidopflebjaaGreatDoorRows
import Derived.Test.YtomdidopflebjaaGreatDoorWMore
import Derived.WalkKit
namespace Go.Proofs.YtomdidopflebjaaGreatDoor.PM
open Go.RowKit Go.Proofs.YtomdidopflebjaaGreatDoorW.PrintWords Go.Proofs.YtomdidopflebjaaGreatDoorW.PrintLast Go.Proofs.YtomdidopflebjaaGreatDoorW.PrintMore Go.Proofs.YtomdidopflebjaaGreatDoor.Glob
attribute [local go_sem] max2_int min2_int max_two min_two max_three min_three max_four min_four   -- for this text's walks alone
set_option linter.unusedVariables false
set_option linter.unusedSimpArgs false
attribute [local go_sem high] eqA64
def beadlelaw21_speaks.f (k : Nat)  : Option (Bool) := (beadlelaw21_made.f (([(⟨(⟨#[104, 49]⟩ : ByteArray), (⟨#[97]⟩ : ByteArray), ([] : List (S69)), 0, 0⟩ : S54), (⟨(⟨#[104, 51]⟩ : ByteArray), (⟨#[98]⟩ : ByteArray), ([] : List (S69)), 0, 5⟩ : S54), (⟨(⟨#[104, 50]⟩ : ByteArray), (⟨#[]⟩ : ByteArray), ([] : List (S69)), 0, 0⟩ : S54)] : List (S54)))).bind fun bt221 => ((outline_Check.f k bt221.1).bind fun t227 => ((outline_Show.f k bt221.1).bind fun t230 => (if t230.toList = ([49, 32, 97, 10, 32, 32, 51, 32, 98, 10, 32, 32, 50, 32, 10] : List UInt8) then (if (t227.length : Int) = 1 then (if 0 < (t227.length : Int) then (some (((rd_T64 t227 0).f0) == 55 && (((rd_T64 t227 0).f1) == 5 && ((((rd_T64 t227 0).f2).toList) == ([47, 49] : List UInt8))))) else (none)) else (some false)) else (some false))))
theorem beadlelaw21_speaks.mono : ∀ k, LeO (beadlelaw21_speaks.f k ) (beadlelaw21_speaks.f (k + 1) ) := by
  intro  k
  unfold beadlelaw21_speaks.f
  repeat' first
      | (with_reducible exact outline_Check.mono _ _)
      | (with_reducible exact outline_Show.mono _ _)
      | (with_reducible exact LeO.refl _)
      | (with_reducible exact LeO.none _)
      | (with_reducible refine LeO.ite ?_ ?_)
      | (with_reducible refine LeO.bind ?_ (fun _ => ?_))
      | exact outline_Check.mono _ _
      | exact outline_Show.mono _ _
      | exact LeO.none _
      | refine LeO.ite ?_ ?_
      | refine LeO.bind ?_ (fun _ => ?_)
set_option maxHeartbeats 8000000 in
set_option maxRecDepth 100000 in
theorem beadlelaw21_speaks.calls (k : Nat)  (r : Bool) (w : World) (hG : GW w) (h : beadlelaw21_speaks.f k  = some r) :
    Calls Tryz.prog 7 #[] w fun e w' => e = .returned (.bool r) ∧ Below w.heap.size w w' := by
  have HG := Aside0.mk hG
  clear hG
  have hu54 := Tryz.underlying54
  have hu64 := Tryz.underlying64
  have HB := Aside0.mk (Below.refl w.heap.size w)
  have H : ((beadlelaw21_made.f (([(⟨(⟨#[104, 49]⟩ : ByteArray), (⟨#[97]⟩ : ByteArray), ([] : List (S69)), 0, 0⟩ : S54), (⟨(⟨#[104, 51]⟩ : ByteArray), (⟨#[98]⟩ : ByteArray), ([] : List (S69)), 0, 5⟩ : S54), (⟨(⟨#[104, 50]⟩ : ByteArray), (⟨#[]⟩ : ByteArray), ([] : List (S69)), 0, 0⟩ : S54)] : List (S54)))).bind fun bt221 => ((outline_Check.f k bt221.1).bind fun t227 => ((outline_Show.f k bt221.1).bind fun t230 => (if t230.toList = ([49, 32, 97, 10, 32, 32, 51, 32, 98, 10, 32, 32, 50, 32, 10] : List UInt8) then (if (t227.length : Int) = 1 then (if 0 < (t227.length : Int) then (some (((rd_T64 t227 0).f0) == 55 && (((rd_T64 t227 0).f1) == 5 && ((((rd_T64 t227 0).f2).toList) == ([47, 49] : List UInt8))))) else (none)) else (some false)) else (some false))))) = some r := h
  clear h
  obtain ⟨y218, hy218⟩ : ∃ y_ : List (S54), y_ = (([(⟨(⟨#[104, 49]⟩ : ByteArray), (⟨#[97]⟩ : ByteArray), ([] : List (S69)), 0, 0⟩ : S54), (⟨(⟨#[104, 51]⟩ : ByteArray), (⟨#[98]⟩ : ByteArray), ([] : List (S69)), 0, 5⟩ : S54), (⟨(⟨#[104, 50]⟩ : ByteArray), (⟨#[]⟩ : ByteArray), ([] : List (S69)), 0, 0⟩ : S54)] : List (S54))) := ⟨_, rfl⟩
  replace H : ((beadlelaw21_made.f y218).bind fun bt221 => ((outline_Check.f k bt221.1).bind fun t227 => ((outline_Show.f k bt221.1).bind fun t230 => (if t230.toList = ([49, 32, 97, 10, 32, 32, 51, 32, 98, 10, 32, 32, 50, 32, 10] : List UInt8) then (if (t227.length : Int) = 1 then (if 0 < (t227.length : Int) then (some (((rd_T64 t227 0).f0) == 55 && (((rd_T64 t227 0).f1) == 5 && ((((rd_T64 t227 0).f2).toList) == ([47, 49] : List UInt8))))) else (none)) else (some false)) else (some false))))) = some r := by first | (rw [hy218]; with_reducible exact H) | (have H2_ := (Option.bind_some _ _).symm.trans H; rw [hy218]; with_reducible exact H2_) | (have H2_ := (Option.bind_some _ _).symm.trans H; with_reducible exact H2_) | with_reducible exact H | (rw [hy218]; exact H) | exact H
  have Ny218 := Aside0.mk hy218
  clear hy218
  replace H := Option.bind_eq_some_iff.mp H
  obtain ⟨⟨t221, t222⟩, A10, H⟩ := H
  replace H : ((outline_Check.f k t221).bind fun t227 => ((outline_Show.f k t221).bind fun t230 => (if t230.toList = ([49, 32, 97, 10, 32, 32, 51, 32, 98, 10, 32, 32, 50, 32, 10] : List UInt8) then (if (t227.length : Int) = 1 then (if 0 < (t227.length : Int) then (some (((rd_T64 t227 0).f0) == 55 && (((rd_T64 t227 0).f1) == 5 && ((((rd_T64 t227 0).f2).toList) == ([47, 49] : List UInt8))))) else (none)) else (some false)) else (some false)))) = some r := H
  have A1 := Aside0.mk A10
  clear A10
  replace H := Option.bind_eq_some_iff.mp H
  obtain ⟨t227, A20, H⟩ := H
  replace H : ((outline_Show.f k t221).bind fun t230 => (if t230.toList = ([49, 32, 97, 10, 32, 32, 51, 32, 98, 10, 32, 32, 50, 32, 10] : List UInt8) then (if (t227.length : Int) = 1 then (if 0 < (t227.length : Int) then (some (((rd_T64 t227 0).f0) == 55 && (((rd_T64 t227 0).f1) == 5 && ((((rd_T64 t227 0).f2).toList) == ([47, 49] : List UInt8))))) else (none)) else (some false)) else (some false))) = some r := H
  have A2 := Aside0.mk A20
  clear A20
  replace H := Option.bind_eq_some_iff.mp H
  obtain ⟨t230, A30, H⟩ := H
  replace H : (if t230.toList = ([49, 32, 97, 10, 32, 32, 51, 32, 98, 10, 32, 32, 50, 32, 10] : List UInt8) then (if (t227.length : Int) = 1 then (if 0 < (t227.length : Int) then (some (((rd_T64 t227 0).f0) == 55 && (((rd_T64 t227 0).f1) == 5 && ((((rd_T64 t227 0).f2).toList) == ([47, 49] : List UInt8))))) else (none)) else (some false)) else (some false)) = some r := H
  have A3 := Aside0.mk A30
  clear A30
  by_cases c4 : t230.toList = ([49, 32, 97, 10, 32, 32, 51, 32, 98, 10, 32, 32, 50, 32, 10] : List UInt8)
  · rw [if_pos c4] at H
    have c4b0 : (t230.toList == ([49, 32, 97, 10, 32, 32, 51, 32, 98, 10, 32, 32, 50, 32, 10] : List UInt8)) = true := beq_iff_eq.mpr c4
    have c4b1 : (t230.toList != ([49, 32, 97, 10, 32, 32, 51, 32, 98, 10, 32, 32, 50, 32, 10] : List UInt8)) = false := bne_eq_false_iff_eq.mpr c4
    clear c4
    by_cases c5 : (t227.length : Int) = 1
    · rw [if_pos c5] at H
      have c5b0 : ((t227.length : Int) == 1) = true := beq_iff_eq.mpr c5
      have c5b1 : ((t227.length : Int) != 1) = false := bne_eq_false_iff_eq.mpr c5
      clear c5
      by_cases c6 : 0 < (t227.length : Int)
      · rw [if_pos c6] at H
        have c6b0 : decide (0 < (t227.length : Int)) = true := decide_eq_true c6
        have c6b1 : decide (0 < t227.length) = true := decide_eq_true (by omega)
        clear c6
        obtain rfl := Option.some.inj H
        go_enter Tryz.func7, Tryz.ntmps7
        go_wp2_with (first | ((with_reducible refine gate_dst (N := 8) rfl ?_); (try (refine gate_guard (by rfl) ?_; dsimp only)); refine Kd.S_lit k54 _ 54 ?hg (N := 8) ?hd (xs := ([(⟨(⟨#[104, 49]⟩ : ByteArray), (⟨#[97]⟩ : ByteArray), ([] : List (S69)), 0, 0⟩ : S54), (⟨(⟨#[104, 51]⟩ : ByteArray), (⟨#[98]⟩ : ByteArray), ([] : List (S69)), 0, 5⟩ : S54), (⟨(⟨#[104, 50]⟩ : ByteArray), (⟨#[]⟩ : ByteArray), ([] : List (S69)), 0, 0⟩ : S54)] : List (S54))) (inner := [.string (⟨#[104, 49]⟩ : ByteArray), .string (⟨#[97]⟩ : ByteArray), .slice none 0 0, .int .i64 0, .int .i64 0, .string (⟨#[104, 51]⟩ : ByteArray), .string (⟨#[98]⟩ : ByteArray), .slice none 0 0, .int .i64 0, .int .i64 5, .string (⟨#[104, 50]⟩ : ByteArray), .string (⟨#[]⟩ : ByteArray), .slice none 0 0, .int .i64 0, .int .i64 0]) (ok := fun _ => True) (okp := fun _ => True) ?hr ?hp (fun _ hk => hk) trivial (Below.refl _ _) (Nat.le_refl _) (by simp) ?_; (case hd => rfl); (case hg => rfl); (case hr => first | (go_simp; done) | (go_simp; rfl)); (case hp => exact (Reps.c5 (show Kd.M k54 _ _ _ (⟨(⟨#[104, 49]⟩ : ByteArray), (⟨#[97]⟩ : ByteArray), ([] : List (S69)), 0, 0⟩ : S54) [.string (⟨#[104, 49]⟩ : ByteArray), .string (⟨#[97]⟩ : ByteArray), .slice none 0 0, .int .i64 0, .int .i64 0] from (k54_mkM _ _ _ (⟨(⟨#[104, 49]⟩ : ByteArray), (⟨#[97]⟩ : ByteArray), ([] : List (S69)), 0, 0⟩ : S54) (Kd.R_nil _ _ _ _ _))) (Reps.c5 (show Kd.M k54 _ _ _ (⟨(⟨#[104, 51]⟩ : ByteArray), (⟨#[98]⟩ : ByteArray), ([] : List (S69)), 0, 5⟩ : S54) [.string (⟨#[104, 51]⟩ : ByteArray), .string (⟨#[98]⟩ : ByteArray), .slice none 0 0, .int .i64 0, .int .i64 5] from (k54_mkM _ _ _ (⟨(⟨#[104, 51]⟩ : ByteArray), (⟨#[98]⟩ : ByteArray), ([] : List (S69)), 0, 5⟩ : S54) (Kd.R_nil _ _ _ _ _))) (Reps.c5 (show Kd.M k54 _ _ _ (⟨(⟨#[104, 50]⟩ : ByteArray), (⟨#[]⟩ : ByteArray), ([] : List (S69)), 0, 0⟩ : S54) [.string (⟨#[104, 50]⟩ : ByteArray), .string (⟨#[]⟩ : ByteArray), .slice none 0 0, .int .i64 0, .int .i64 0] from (k54_mkM _ _ _ (⟨(⟨#[104, 50]⟩ : ByteArray), (⟨#[]⟩ : ByteArray), ([] : List (S69)), 0, 0⟩ : S54) (Kd.R_nil _ _ _ _ _))) (Reps.none _ _))))); intro v219 w7 ho8 hb hg_ hnew_; clear hg_ hnew_; (first | rw [← Ny218.out] at ho8 | (simp only [Int.reduceToNat] at ho8; rw [← Ny218.out] at ho8)); have n0_ := Aside0.mk (Kd.S_lower ho8 (below_size (by repeat (first | (with_reducible first | exact HB.out | apply below_alloc | apply pw_below_drewN | apply below_drew1) | exact HB.out)))); have n1_ := Aside0.mk (below_step (by repeat (first | (with_reducible first | exact HB.out | apply below_alloc | apply pw_below_drewN | apply below_drew1) | exact HB.out)) hb); clear HB; have HO220 := n0_; have HB := n1_; clear n0_ n1_; clear hb ho8; obtain ⟨Ao9, co9, eo9⟩ := Kd.S_slice HO220.out; subst eo9) | ((with_reducible refine gate_callee (f := 8) rfl ?_); refine goesL_ (some 9) rfl rfl Tryz.func8 (by kernel_rfl) rfl #[.slice Ao9 y218.length co9] rfl (by (try simp only [List.map_toArray, List.map_cons, List.map_nil]); first | done | rfl | (simp only [List.length_drop, List.length_take]; rfl)) ?_; (with_reducible refine (beadlelaw21_made.calls _ _ y218 t221 t222 _ ?side1 ?side2 A1.out).mono ?_); (case side1 => repeat (first | exact (Kd.S_reads' HO220.out).2.2 | (with_reducible refine Kd.C_alloc ?_ _) | (with_reducible refine Kd.C_drewN ?_ _) | (with_reducible refine Kd.C_drew ?_))); (case side2 => exact (Kd.S_reads' HO220.out).2.1); rintro e w10 ⟨v223, v225, rfl, ho0, ho1, hb⟩; refine ⟨_, rfl, ?_⟩; have n0_ := Aside0.mk (Kd.S_below (by (with_reducible repeat (first | apply Kd.S_alloc | apply Kd.S_drewN | apply Kd.S_drew)); exact HO220.out) hb); have n1_ := Aside0.mk (Kd.R_lower ho0 (below_size (by repeat (first | (with_reducible first | exact HB.out | apply below_alloc | apply pw_below_drewN | apply below_drew1) | exact HB.out)))); have n2_ := Aside0.mk (Kd.R_lower ho1 (below_size (by repeat (first | (with_reducible first | exact HB.out | apply below_alloc | apply pw_below_drewN | apply below_drew1) | exact HB.out)))); have n3_ := Aside0.mk (below_step (by repeat (first | (with_reducible first | exact HB.out | apply below_alloc | apply pw_below_drewN | apply below_drew1) | exact HB.out)) hb); clear HO220; clear HB; have HO220 := n0_; have HO224 := n1_; have HO226 := n2_; have HB := n3_; clear n0_ n1_ n2_ n3_; (try clear hb); (try clear hb2); (try clear hk); (try clear hi); (try clear ho0); (try clear ho1); obtain ⟨Ao11, co11, eo11⟩ := Kd.R_slice HO224.out; subst eo11; obtain ⟨ppo11, hpo11⟩ : ∃ p_, p_ = (if t221.length = 0 then none else Ao11) := ⟨_, rfl⟩; simp only [toPtr_slice, ← hpo11]; have HPo11 := Aside0.mk hpo11; clear hpo11; obtain ⟨Ao12, co12, eo12⟩ := Kd.R_slice HO226.out; subst eo12; obtain ⟨ppo12, hpo12⟩ : ∃ p_, p_ = (if t222.length = 0 then none else Ao12) := ⟨_, rfl⟩; simp only [toPtr_slice, ← hpo12]; have HPo12 := Aside0.mk hpo12; clear hpo12) | ((with_reducible refine gate_callee (f := 14) rfl ?_); refine goesL_ (some 13) rfl rfl Tryz.func14 (by kernel_rfl) rfl #[.pointer ppo11] rfl (by (try simp only [List.map_toArray, List.map_cons, List.map_nil]); first | done | rfl | (simp only [List.length_drop, List.length_take]; rfl)) ?_; (with_reducible refine (outline_Check.calls k _ t221.length t221 t227 _ ?side1 ?side2 (by repeat (first | exact GW.below HG.out HB.out | exact HG.out | (with_reducible refine GW.alloc ?_ _) | (with_reducible refine GW.drewN ?_ _) | (with_reducible refine GW.drew ?_))) A2.out).mono ?_); (case side1 => repeat (first | exact (ptr_C HPo11.out (Kd.R_reads' HO224.out).2.2) | (with_reducible refine Kd.C_alloc ?_ _) | (with_reducible refine Kd.C_drewN ?_ _) | (with_reducible refine Kd.C_drew ?_))); (case side2 => exact ⟨Nat.le_refl _, ptr_nil HPo11.out⟩); rintro e w13 ⟨v228, rfl, ho0, hb⟩; refine ⟨_, rfl, ?_⟩; have n0_ := Aside0.mk (Kd.S_below (by (with_reducible repeat (first | apply Kd.S_alloc | apply Kd.S_drewN | apply Kd.S_drew)); exact HO220.out) hb); have n1_ := Aside0.mk (Kd.R_below (by (with_reducible repeat (first | apply Kd.R_alloc | apply Kd.R_drewN | apply Kd.R_drew)); exact HO224.out) hb); have n2_ := Aside0.mk (Kd.R_below (by (with_reducible repeat (first | apply Kd.R_alloc | apply Kd.R_drewN | apply Kd.R_drew)); exact HO226.out) hb); have n3_ := Aside0.mk (Kd.R_lower ho0 (below_size (by repeat (first | (with_reducible first | exact HB.out | apply below_alloc | apply pw_below_drewN | apply below_drew1) | exact HB.out)))); have n4_ := Aside0.mk (below_step (by repeat (first | (with_reducible first | exact HB.out | apply below_alloc | apply pw_below_drewN | apply below_drew1) | exact HB.out)) hb); clear HO220; clear HO224; clear HO226; clear HB; have HO220 := n0_; have HO224 := n1_; have HO226 := n2_; have HO229 := n3_; have HB := n4_; clear n0_ n1_ n2_ n3_ n4_; (try clear hb); (try clear hb2); (try clear hk); (try clear hi); (try clear ho0)) | ((with_reducible refine gate_callee (f := 11) rfl ?_); refine goesL_ (some 15) rfl rfl Tryz.func11 (by kernel_rfl) rfl #[.pointer ppo11] rfl (by (try simp only [List.map_toArray, List.map_cons, List.map_nil]); first | done | rfl | (simp only [List.length_drop, List.length_take]; rfl)) ?_; (with_reducible refine (outline_Show.calls k _ t221.length t221 t230 _ ?side1 ?side2 (by repeat (first | exact GW.below HG.out HB.out | exact HG.out | (with_reducible refine GW.alloc ?_ _) | (with_reducible refine GW.drewN ?_ _) | (with_reducible refine GW.drew ?_))) A3.out).mono ?_); (case side1 => repeat (first | exact (ptr_C HPo11.out (Kd.R_reads' HO224.out).2.2) | (with_reducible refine Kd.C_alloc ?_ _) | (with_reducible refine Kd.C_drewN ?_ _) | (with_reducible refine Kd.C_drew ?_))); (case side2 => exact ⟨Nat.le_refl _, ptr_nil HPo11.out⟩); rintro e w14 ⟨rfl, hb⟩; refine ⟨_, rfl, ?_⟩; have n0_ := Aside0.mk (Kd.S_below (by (with_reducible repeat (first | apply Kd.S_alloc | apply Kd.S_drewN | apply Kd.S_drew)); exact HO220.out) hb); have n1_ := Aside0.mk (Kd.R_below (by (with_reducible repeat (first | apply Kd.R_alloc | apply Kd.R_drewN | apply Kd.R_drew)); exact HO224.out) hb); have n2_ := Aside0.mk (Kd.R_below (by (with_reducible repeat (first | apply Kd.R_alloc | apply Kd.R_drewN | apply Kd.R_drew)); exact HO226.out) hb); have n3_ := Aside0.mk (Kd.R_below (by (with_reducible repeat (first | apply Kd.R_alloc | apply Kd.R_drewN | apply Kd.R_drew)); exact HO229.out) hb); have n4_ := Aside0.mk (below_step (by repeat (first | (with_reducible first | exact HB.out | apply below_alloc | apply pw_below_drewN | apply below_drew1) | exact HB.out)) hb); clear HO220; clear HO224; clear HO226; clear HO229; clear HB; have HO220 := n0_; have HO224 := n1_; have HO226 := n2_; have HO229 := n3_; have HB := n4_; clear n0_ n1_ n2_ n3_ n4_; (try clear hb); (try clear hb2); (try clear hk); (try clear hi); obtain ⟨Ao15, co15, eo15⟩ := Kd.R_slice HO229.out; subst eo15; have p231 : 0 ≤ (0 : Int) := (by omega); have q231 : 0 < (t227.length : Int) := of_decide_eq_true (by first | (with_reducible assumption) | assumption); obtain ⟨ad231, e231, hx231_0, hx231_1, hx231_2⟩ := at_T64 (Kd.R_reads' HO229.out).2.2 0 p231 q231; cases e231; have qi231 : (0 < t227.length) = True := eq_true (by omega); (try rw [show ((0 : Int)).toNat = 0 from rfl] at hx231_0); (try rw [show 0 * 3 = 0 from rfl] at hx231_0); (try rw [Addr.add_zero'] at hx231_0); (try rw [show ((0 : Int)).toNat = 0 from rfl] at hx231_1); (try rw [show 0 * 3 = 0 from rfl] at hx231_1); (try rw [Addr.add_zero'] at hx231_1); (try rw [show ((0 : Int)).toNat = 0 from rfl] at hx231_2); (try rw [show 0 * 3 = 0 from rfl] at hx231_2); (try rw [Addr.add_zero'] at hx231_2); replace p231 := eq_true p231; replace q231 := eq_true q231))
        go_ret
        exact ⟨by first | rfl | (simp [errW_none, errW_some] <;> rfl) | (simp [*, errW_none, errW_some] <;> rfl), by repeat (first | (with_reducible first | exact HB.out | apply below_alloc | apply pw_below_drewN | apply below_drew1) | exact HB.out)⟩
      · rw [if_neg c6] at H
        exact absurd H (by simp)
    · rw [if_neg c5] at H
      have c5b0 : ((t227.length : Int) == 1) = false := beq_eq_false_iff_ne.mpr c5
      have c5b1 : ((t227.length : Int) != 1) = true := bne_iff_ne.mpr c5
      obtain rfl := Option.some.inj H
      go_enter Tryz.func7, Tryz.ntmps7
      go_wp2_with (first | ((with_reducible refine gate_dst (N := 8) rfl ?_); (try (refine gate_guard (by rfl) ?_; dsimp only)); refine Kd.S_lit k54 _ 54 ?hg (N := 8) ?hd (xs := ([(⟨(⟨#[104, 49]⟩ : ByteArray), (⟨#[97]⟩ : ByteArray), ([] : List (S69)), 0, 0⟩ : S54), (⟨(⟨#[104, 51]⟩ : ByteArray), (⟨#[98]⟩ : ByteArray), ([] : List (S69)), 0, 5⟩ : S54), (⟨(⟨#[104, 50]⟩ : ByteArray), (⟨#[]⟩ : ByteArray), ([] : List (S69)), 0, 0⟩ : S54)] : List (S54))) (inner := [.string (⟨#[104, 49]⟩ : ByteArray), .string (⟨#[97]⟩ : ByteArray), .slice none 0 0, .int .i64 0, .int .i64 0, .string (⟨#[104, 51]⟩ : ByteArray), .string (⟨#[98]⟩ : ByteArray), .slice none 0 0, .int .i64 0, .int .i64 5, .string (⟨#[104, 50]⟩ : ByteArray), .string (⟨#[]⟩ : ByteArray), .slice none 0 0, .int .i64 0, .int .i64 0]) (ok := fun _ => True) (okp := fun _ => True) ?hr ?hp (fun _ hk => hk) trivial (Below.refl _ _) (Nat.le_refl _) (by simp) ?_; (case hd => rfl); (case hg => rfl); (case hr => first | (go_simp; done) | (go_simp; rfl)); (case hp => exact (Reps.c5 (show Kd.M k54 _ _ _ (⟨(⟨#[104, 49]⟩ : ByteArray), (⟨#[97]⟩ : ByteArray), ([] : List (S69)), 0, 0⟩ : S54) [.string (⟨#[104, 49]⟩ : ByteArray), .string (⟨#[97]⟩ : ByteArray), .slice none 0 0, .int .i64 0, .int .i64 0] from (k54_mkM _ _ _ (⟨(⟨#[104, 49]⟩ : ByteArray), (⟨#[97]⟩ : ByteArray), ([] : List (S69)), 0, 0⟩ : S54) (Kd.R_nil _ _ _ _ _))) (Reps.c5 (show Kd.M k54 _ _ _ (⟨(⟨#[104, 51]⟩ : ByteArray), (⟨#[98]⟩ : ByteArray), ([] : List (S69)), 0, 5⟩ : S54) [.string (⟨#[104, 51]⟩ : ByteArray), .string (⟨#[98]⟩ : ByteArray), .slice none 0 0, .int .i64 0, .int .i64 5] from (k54_mkM _ _ _ (⟨(⟨#[104, 51]⟩ : ByteArray), (⟨#[98]⟩ : ByteArray), ([] : List (S69)), 0, 5⟩ : S54) (Kd.R_nil _ _ _ _ _))) (Reps.c5 (show Kd.M k54 _ _ _ (⟨(⟨#[104, 50]⟩ : ByteArray), (⟨#[]⟩ : ByteArray), ([] : List (S69)), 0, 0⟩ : S54) [.string (⟨#[104, 50]⟩ : ByteArray), .string (⟨#[]⟩ : ByteArray), .slice none 0 0, .int .i64 0, .int .i64 0] from (k54_mkM _ _ _ (⟨(⟨#[104, 50]⟩ : ByteArray), (⟨#[]⟩ : ByteArray), ([] : List (S69)), 0, 0⟩ : S54) (Kd.R_nil _ _ _ _ _))) (Reps.none _ _))))); intro v219 w16 ho17 hb hg_ hnew_; clear hg_ hnew_; (first | rw [← Ny218.out] at ho17 | (simp only [Int.reduceToNat] at ho17; rw [← Ny218.out] at ho17)); have n0_ := Aside0.mk (Kd.S_lower ho17 (below_size (by repeat (first | (with_reducible first | exact HB.out | apply below_alloc | apply pw_below_drewN | apply below_drew1) | exact HB.out)))); have n1_ := Aside0.mk (below_step (by repeat (first | (with_reducible first | exact HB.out | apply below_alloc | apply pw_below_drewN | apply below_drew1) | exact HB.out)) hb); clear HB; have HO220 := n0_; have HB := n1_; clear n0_ n1_; clear hb ho17; obtain ⟨Ao18, co18, eo18⟩ := Kd.S_slice HO220.out; subst eo18) | ((with_reducible refine gate_callee (f := 8) rfl ?_); refine goesL_ (some 9) rfl rfl Tryz.func8 (by kernel_rfl) rfl #[.slice Ao18 y218.length co18] rfl (by (try simp only [List.map_toArray, List.map_cons, List.map_nil]); first | done | rfl | (simp only [List.length_drop, List.length_take]; rfl)) ?_; (with_reducible refine (beadlelaw21_made.calls _ _ y218 t221 t222 _ ?side1 ?side2 A1.out).mono ?_); (case side1 => repeat (first | exact (Kd.S_reads' HO220.out).2.2 | (with_reducible refine Kd.C_alloc ?_ _) | (with_reducible refine Kd.C_drewN ?_ _) | (with_reducible refine Kd.C_drew ?_))); (case side2 => exact (Kd.S_reads' HO220.out).2.1); rintro e w19 ⟨v223, v225, rfl, ho0, ho1, hb⟩; refine ⟨_, rfl, ?_⟩; have n0_ := Aside0.mk (Kd.S_below (by (with_reducible repeat (first | apply Kd.S_alloc | apply Kd.S_drewN | apply Kd.S_drew)); exact HO220.out) hb); have n1_ := Aside0.mk (Kd.R_lower ho0 (below_size (by repeat (first | (with_reducible first | exact HB.out | apply below_alloc | apply pw_below_drewN | apply below_drew1) | exact HB.out)))); have n2_ := Aside0.mk (Kd.R_lower ho1 (below_size (by repeat (first | (with_reducible first | exact HB.out | apply below_alloc | apply pw_below_drewN | apply below_drew1) | exact HB.out)))); have n3_ := Aside0.mk (below_step (by repeat (first | (with_reducible first | exact HB.out | apply below_alloc | apply pw_below_drewN | apply below_drew1) | exact HB.out)) hb); clear HO220; clear HB; have HO220 := n0_; have HO224 := n1_; have HO226 := n2_; have HB := n3_; clear n0_ n1_ n2_ n3_; (try clear hb); (try clear hb2); (try clear hk); (try clear hi); (try clear ho0); (try clear ho1); obtain ⟨Ao20, co20, eo20⟩ := Kd.R_slice HO224.out; subst eo20; obtain ⟨ppo20, hpo20⟩ : ∃ p_, p_ = (if t221.length = 0 then none else Ao20) := ⟨_, rfl⟩; simp only [toPtr_slice, ← hpo20]; have HPo20 := Aside0.mk hpo20; clear hpo20; obtain ⟨Ao21, co21, eo21⟩ := Kd.R_slice HO226.out; subst eo21; obtain ⟨ppo21, hpo21⟩ : ∃ p_, p_ = (if t222.length = 0 then none else Ao21) := ⟨_, rfl⟩; simp only [toPtr_slice, ← hpo21]; have HPo21 := Aside0.mk hpo21; clear hpo21) | ((with_reducible refine gate_callee (f := 14) rfl ?_); refine goesL_ (some 13) rfl rfl Tryz.func14 (by kernel_rfl) rfl #[.pointer ppo20] rfl (by (try simp only [List.map_toArray, List.map_cons, List.map_nil]); first | done | rfl | (simp only [List.length_drop, List.length_take]; rfl)) ?_; (with_reducible refine (outline_Check.calls k _ t221.length t221 t227 _ ?side1 ?side2 (by repeat (first | exact GW.below HG.out HB.out | exact HG.out | (with_reducible refine GW.alloc ?_ _) | (with_reducible refine GW.drewN ?_ _) | (with_reducible refine GW.drew ?_))) A2.out).mono ?_); (case side1 => repeat (first | exact (ptr_C HPo20.out (Kd.R_reads' HO224.out).2.2) | (with_reducible refine Kd.C_alloc ?_ _) | (with_reducible refine Kd.C_drewN ?_ _) | (with_reducible refine Kd.C_drew ?_))); (case side2 => exact ⟨Nat.le_refl _, ptr_nil HPo20.out⟩); rintro e w22 ⟨v228, rfl, ho0, hb⟩; refine ⟨_, rfl, ?_⟩; have n0_ := Aside0.mk (Kd.S_below (by (with_reducible repeat (first | apply Kd.S_alloc | apply Kd.S_drewN | apply Kd.S_drew)); exact HO220.out) hb); have n1_ := Aside0.mk (Kd.R_below (by (with_reducible repeat (first | apply Kd.R_alloc | apply Kd.R_drewN | apply Kd.R_drew)); exact HO224.out) hb); have n2_ := Aside0.mk (Kd.R_below (by (with_reducible repeat (first | apply Kd.R_alloc | apply Kd.R_drewN | apply Kd.R_drew)); exact HO226.out) hb); have n3_ := Aside0.mk (Kd.R_lower ho0 (below_size (by repeat (first | (with_reducible first | exact HB.out | apply below_alloc | apply pw_below_drewN | apply below_drew1) | exact HB.out)))); have n4_ := Aside0.mk (below_step (by repeat (first | (with_reducible first | exact HB.out | apply below_alloc | apply pw_below_drewN | apply below_drew1) | exact HB.out)) hb); clear HO220; clear HO224; clear HO226; clear HB; have HO220 := n0_; have HO224 := n1_; have HO226 := n2_; have HO229 := n3_; have HB := n4_; clear n0_ n1_ n2_ n3_ n4_; (try clear hb); (try clear hb2); (try clear hk); (try clear hi); (try clear ho0)) | ((with_reducible refine gate_callee (f := 11) rfl ?_); refine goesL_ (some 15) rfl rfl Tryz.func11 (by kernel_rfl) rfl #[.pointer ppo20] rfl (by (try simp only [List.map_toArray, List.map_cons, List.map_nil]); first | done | rfl | (simp only [List.length_drop, List.length_take]; rfl)) ?_; (with_reducible refine (outline_Show.calls k _ t221.length t221 t230 _ ?side1 ?side2 (by repeat (first | exact GW.below HG.out HB.out | exact HG.out | (with_reducible refine GW.alloc ?_ _) | (with_reducible refine GW.drewN ?_ _) | (with_reducible refine GW.drew ?_))) A3.out).mono ?_); (case side1 => repeat (first | exact (ptr_C HPo20.out (Kd.R_reads' HO224.out).2.2) | (with_reducible refine Kd.C_alloc ?_ _) | (with_reducible refine Kd.C_drewN ?_ _) | (with_reducible refine Kd.C_drew ?_))); (case side2 => exact ⟨Nat.le_refl _, ptr_nil HPo20.out⟩); rintro e w23 ⟨rfl, hb⟩; refine ⟨_, rfl, ?_⟩; have n0_ := Aside0.mk (Kd.S_below (by (with_reducible repeat (first | apply Kd.S_alloc | apply Kd.S_drewN | apply Kd.S_drew)); exact HO220.out) hb); have n1_ := Aside0.mk (Kd.R_below (by (with_reducible repeat (first | apply Kd.R_alloc | apply Kd.R_drewN | apply Kd.R_drew)); exact HO224.out) hb); have n2_ := Aside0.mk (Kd.R_below (by (with_reducible repeat (first | apply Kd.R_alloc | apply Kd.R_drewN | apply Kd.R_drew)); exact HO226.out) hb); have n3_ := Aside0.mk (Kd.R_below (by (with_reducible repeat (first | apply Kd.R_alloc | apply Kd.R_drewN | apply Kd.R_drew)); exact HO229.out) hb); have n4_ := Aside0.mk (below_step (by repeat (first | (with_reducible first | exact HB.out | apply below_alloc | apply pw_below_drewN | apply below_drew1) | exact HB.out)) hb); clear HO220; clear HO224; clear HO226; clear HO229; clear HB; have HO220 := n0_; have HO224 := n1_; have HO226 := n2_; have HO229 := n3_; have HB := n4_; clear n0_ n1_ n2_ n3_ n4_; (try clear hb); (try clear hb2); (try clear hk); (try clear hi); obtain ⟨Ao24, co24, eo24⟩ := Kd.R_slice HO229.out; subst eo24))
      go_ret
      exact ⟨by first | rfl | (simp [errW_none, errW_some] <;> rfl) | (simp [*, errW_none, errW_some] <;> rfl), by repeat (first | (with_reducible first | exact HB.out | apply below_alloc | apply pw_below_drewN | apply below_drew1) | exact HB.out)⟩
  · rw [if_neg c4] at H
    have c4b0 : (t230.toList == ([49, 32, 97, 10, 32, 32, 51, 32, 98, 10, 32, 32, 50, 32, 10] : List UInt8)) = false := beq_eq_false_iff_ne.mpr c4
    have c4b1 : (t230.toList != ([49, 32, 97, 10, 32, 32, 51, 32, 98, 10, 32, 32, 50, 32, 10] : List UInt8)) = true := bne_iff_ne.mpr c4
    obtain rfl := Option.some.inj H
    go_enter Tryz.func7, Tryz.ntmps7
    go_wp2_with (first | ((with_reducible refine gate_dst (N := 8) rfl ?_); (try (refine gate_guard (by rfl) ?_; dsimp only)); refine Kd.S_lit k54 _ 54 ?hg (N := 8) ?hd (xs := ([(⟨(⟨#[104, 49]⟩ : ByteArray), (⟨#[97]⟩ : ByteArray), ([] : List (S69)), 0, 0⟩ : S54), (⟨(⟨#[104, 51]⟩ : ByteArray), (⟨#[98]⟩ : ByteArray), ([] : List (S69)), 0, 5⟩ : S54), (⟨(⟨#[104, 50]⟩ : ByteArray), (⟨#[]⟩ : ByteArray), ([] : List (S69)), 0, 0⟩ : S54)] : List (S54))) (inner := [.string (⟨#[104, 49]⟩ : ByteArray), .string (⟨#[97]⟩ : ByteArray), .slice none 0 0, .int .i64 0, .int .i64 0, .string (⟨#[104, 51]⟩ : ByteArray), .string (⟨#[98]⟩ : ByteArray), .slice none 0 0, .int .i64 0, .int .i64 5, .string (⟨#[104, 50]⟩ : ByteArray), .string (⟨#[]⟩ : ByteArray), .slice none 0 0, .int .i64 0, .int .i64 0]) (ok := fun _ => True) (okp := fun _ => True) ?hr ?hp (fun _ hk => hk) trivial (Below.refl _ _) (Nat.le_refl _) (by simp) ?_; (case hd => rfl); (case hg => rfl); (case hr => first | (go_simp; done) | (go_simp; rfl)); (case hp => exact (Reps.c5 (show Kd.M k54 _ _ _ (⟨(⟨#[104, 49]⟩ : ByteArray), (⟨#[97]⟩ : ByteArray), ([] : List (S69)), 0, 0⟩ : S54) [.string (⟨#[104, 49]⟩ : ByteArray), .string (⟨#[97]⟩ : ByteArray), .slice none 0 0, .int .i64 0, .int .i64 0] from (k54_mkM _ _ _ (⟨(⟨#[104, 49]⟩ : ByteArray), (⟨#[97]⟩ : ByteArray), ([] : List (S69)), 0, 0⟩ : S54) (Kd.R_nil _ _ _ _ _))) (Reps.c5 (show Kd.M k54 _ _ _ (⟨(⟨#[104, 51]⟩ : ByteArray), (⟨#[98]⟩ : ByteArray), ([] : List (S69)), 0, 5⟩ : S54) [.string (⟨#[104, 51]⟩ : ByteArray), .string (⟨#[98]⟩ : ByteArray), .slice none 0 0, .int .i64 0, .int .i64 5] from (k54_mkM _ _ _ (⟨(⟨#[104, 51]⟩ : ByteArray), (⟨#[98]⟩ : ByteArray), ([] : List (S69)), 0, 5⟩ : S54) (Kd.R_nil _ _ _ _ _))) (Reps.c5 (show Kd.M k54 _ _ _ (⟨(⟨#[104, 50]⟩ : ByteArray), (⟨#[]⟩ : ByteArray), ([] : List (S69)), 0, 0⟩ : S54) [.string (⟨#[104, 50]⟩ : ByteArray), .string (⟨#[]⟩ : ByteArray), .slice none 0 0, .int .i64 0, .int .i64 0] from (k54_mkM _ _ _ (⟨(⟨#[104, 50]⟩ : ByteArray), (⟨#[]⟩ : ByteArray), ([] : List (S69)), 0, 0⟩ : S54) (Kd.R_nil _ _ _ _ _))) (Reps.none _ _))))); intro v219 w25 ho26 hb hg_ hnew_; clear hg_ hnew_; (first | rw [← Ny218.out] at ho26 | (simp only [Int.reduceToNat] at ho26; rw [← Ny218.out] at ho26)); have n0_ := Aside0.mk (Kd.S_lower ho26 (below_size (by repeat (first | (with_reducible first | exact HB.out | apply below_alloc | apply pw_below_drewN | apply below_drew1) | exact HB.out)))); have n1_ := Aside0.mk (below_step (by repeat (first | (with_reducible first | exact HB.out | apply below_alloc | apply pw_below_drewN | apply below_drew1) | exact HB.out)) hb); clear HB; have HO220 := n0_; have HB := n1_; clear n0_ n1_; clear hb ho26; obtain ⟨Ao27, co27, eo27⟩ := Kd.S_slice HO220.out; subst eo27) | ((with_reducible refine gate_callee (f := 8) rfl ?_); refine goesL_ (some 9) rfl rfl Tryz.func8 (by kernel_rfl) rfl #[.slice Ao27 y218.length co27] rfl (by (try simp only [List.map_toArray, List.map_cons, List.map_nil]); first | done | rfl | (simp only [List.length_drop, List.length_take]; rfl)) ?_; (with_reducible refine (beadlelaw21_made.calls _ _ y218 t221 t222 _ ?side1 ?side2 A1.out).mono ?_); (case side1 => repeat (first | exact (Kd.S_reads' HO220.out).2.2 | (with_reducible refine Kd.C_alloc ?_ _) | (with_reducible refine Kd.C_drewN ?_ _) | (with_reducible refine Kd.C_drew ?_))); (case side2 => exact (Kd.S_reads' HO220.out).2.1); rintro e w28 ⟨v223, v225, rfl, ho0, ho1, hb⟩; refine ⟨_, rfl, ?_⟩; have n0_ := Aside0.mk (Kd.S_below (by (with_reducible repeat (first | apply Kd.S_alloc | apply Kd.S_drewN | apply Kd.S_drew)); exact HO220.out) hb); have n1_ := Aside0.mk (Kd.R_lower ho0 (below_size (by repeat (first | (with_reducible first | exact HB.out | apply below_alloc | apply pw_below_drewN | apply below_drew1) | exact HB.out)))); have n2_ := Aside0.mk (Kd.R_lower ho1 (below_size (by repeat (first | (with_reducible first | exact HB.out | apply below_alloc | apply pw_below_drewN | apply below_drew1) | exact HB.out)))); have n3_ := Aside0.mk (below_step (by repeat (first | (with_reducible first | exact HB.out | apply below_alloc | apply pw_below_drewN | apply below_drew1) | exact HB.out)) hb); clear HO220; clear HB; have HO220 := n0_; have HO224 := n1_; have HO226 := n2_; have HB := n3_; clear n0_ n1_ n2_ n3_; (try clear hb); (try clear hb2); (try clear hk); (try clear hi); (try clear ho0); (try clear ho1); obtain ⟨Ao29, co29, eo29⟩ := Kd.R_slice HO224.out; subst eo29; obtain ⟨ppo29, hpo29⟩ : ∃ p_, p_ = (if t221.length = 0 then none else Ao29) := ⟨_, rfl⟩; simp only [toPtr_slice, ← hpo29]; have HPo29 := Aside0.mk hpo29; clear hpo29; obtain ⟨Ao30, co30, eo30⟩ := Kd.R_slice HO226.out; subst eo30; obtain ⟨ppo30, hpo30⟩ : ∃ p_, p_ = (if t222.length = 0 then none else Ao30) := ⟨_, rfl⟩; simp only [toPtr_slice, ← hpo30]; have HPo30 := Aside0.mk hpo30; clear hpo30) | ((with_reducible refine gate_callee (f := 14) rfl ?_); refine goesL_ (some 13) rfl rfl Tryz.func14 (by kernel_rfl) rfl #[.pointer ppo29] rfl (by (try simp only [List.map_toArray, List.map_cons, List.map_nil]); first | done | rfl | (simp only [List.length_drop, List.length_take]; rfl)) ?_; (with_reducible refine (outline_Check.calls k _ t221.length t221 t227 _ ?side1 ?side2 (by repeat (first | exact GW.below HG.out HB.out | exact HG.out | (with_reducible refine GW.alloc ?_ _) | (with_reducible refine GW.drewN ?_ _) | (with_reducible refine GW.drew ?_))) A2.out).mono ?_); (case side1 => repeat (first | exact (ptr_C HPo29.out (Kd.R_reads' HO224.out).2.2) | (with_reducible refine Kd.C_alloc ?_ _) | (with_reducible refine Kd.C_drewN ?_ _) | (with_reducible refine Kd.C_drew ?_))); (case side2 => exact ⟨Nat.le_refl _, ptr_nil HPo29.out⟩); rintro e w31 ⟨v228, rfl, ho0, hb⟩; refine ⟨_, rfl, ?_⟩; have n0_ := Aside0.mk (Kd.S_below (by (with_reducible repeat (first | apply Kd.S_alloc | apply Kd.S_drewN | apply Kd.S_drew)); exact HO220.out) hb); have n1_ := Aside0.mk (Kd.R_below (by (with_reducible repeat (first | apply Kd.R_alloc | apply Kd.R_drewN | apply Kd.R_drew)); exact HO224.out) hb); have n2_ := Aside0.mk (Kd.R_below (by (with_reducible repeat (first | apply Kd.R_alloc | apply Kd.R_drewN | apply Kd.R_drew)); exact HO226.out) hb); have n3_ := Aside0.mk (Kd.R_lower ho0 (below_size (by repeat (first | (with_reducible first | exact HB.out | apply below_alloc | apply pw_below_drewN | apply below_drew1) | exact HB.out)))); have n4_ := Aside0.mk (below_step (by repeat (first | (with_reducible first | exact HB.out | apply below_alloc | apply pw_below_drewN | apply below_drew1) | exact HB.out)) hb); clear HO220; clear HO224; clear HO226; clear HB; have HO220 := n0_; have HO224 := n1_; have HO226 := n2_; have HO229 := n3_; have HB := n4_; clear n0_ n1_ n2_ n3_ n4_; (try clear hb); (try clear hb2); (try clear hk); (try clear hi); (try clear ho0)) | ((with_reducible refine gate_callee (f := 11) rfl ?_); refine goesL_ (some 15) rfl rfl Tryz.func11 (by kernel_rfl) rfl #[.pointer ppo29] rfl (by (try simp only [List.map_toArray, List.map_cons, List.map_nil]); first | done | rfl | (simp only [List.length_drop, List.length_take]; rfl)) ?_; (with_reducible refine (outline_Show.calls k _ t221.length t221 t230 _ ?side1 ?side2 (by repeat (first | exact GW.below HG.out HB.out | exact HG.out | (with_reducible refine GW.alloc ?_ _) | (with_reducible refine GW.drewN ?_ _) | (with_reducible refine GW.drew ?_))) A3.out).mono ?_); (case side1 => repeat (first | exact (ptr_C HPo29.out (Kd.R_reads' HO224.out).2.2) | (with_reducible refine Kd.C_alloc ?_ _) | (with_reducible refine Kd.C_drewN ?_ _) | (with_reducible refine Kd.C_drew ?_))); (case side2 => exact ⟨Nat.le_refl _, ptr_nil HPo29.out⟩); rintro e w32 ⟨rfl, hb⟩; refine ⟨_, rfl, ?_⟩; have n0_ := Aside0.mk (Kd.S_below (by (with_reducible repeat (first | apply Kd.S_alloc | apply Kd.S_drewN | apply Kd.S_drew)); exact HO220.out) hb); have n1_ := Aside0.mk (Kd.R_below (by (with_reducible repeat (first | apply Kd.R_alloc | apply Kd.R_drewN | apply Kd.R_drew)); exact HO224.out) hb); have n2_ := Aside0.mk (Kd.R_below (by (with_reducible repeat (first | apply Kd.R_alloc | apply Kd.R_drewN | apply Kd.R_drew)); exact HO226.out) hb); have n3_ := Aside0.mk (Kd.R_below (by (with_reducible repeat (first | apply Kd.R_alloc | apply Kd.R_drewN | apply Kd.R_drew)); exact HO229.out) hb); have n4_ := Aside0.mk (below_step (by repeat (first | (with_reducible first | exact HB.out | apply below_alloc | apply pw_below_drewN | apply below_drew1) | exact HB.out)) hb); clear HO220; clear HO224; clear HO226; clear HO229; clear HB; have HO220 := n0_; have HO224 := n1_; have HO226 := n2_; have HO229 := n3_; have HB := n4_; clear n0_ n1_ n2_ n3_ n4_; (try clear hb); (try clear hb2); (try clear hk); (try clear hi)))
    go_ret
    exact ⟨by first | rfl | (simp [errW_none, errW_some] <;> rfl) | (simp [*, errW_none, errW_some] <;> rfl), by repeat (first | (with_reducible first | exact HB.out | apply below_alloc | apply pw_below_drewN | apply below_drew1) | exact HB.out)⟩
end Go.Proofs.YtomdidopflebjaaGreatDoor.PM
namespace Go.Proofs.YtomdidopflebjaaGreatDoor.PM
open Go.RowKit Go.Proofs.YtomdidopflebjaaGreatDoorW.PrintWords Go.Proofs.YtomdidopflebjaaGreatDoorW.PrintLast Go.Proofs.YtomdidopflebjaaGreatDoorW.PrintMore
attribute [local go_sem] max2_int min2_int max_two min_two max_three min_three max_four min_four   -- for this text's walks alone
set_option linter.unusedVariables false
set_option linter.unusedSimpArgs false
mutual
def beadleref21_Depth.l0 : Nat → List Int → Int → Int → Option (Int)
  | 0, _, _, _ => none
  | k + 1, x0, x1, x5 => if x5 ≥ 0 then (if 0 ≤ x5 then (if x5 < (x0.length : Int) then (if 0 ≤ x1 then (if x1 < (x0.length : Int) then (if (rd x0 x5) < (rd x0 x1) then ((beadleref21_Depth.f k x0 x5).bind fun t298 => (some (wrap64 (1 + t298)))) else (beadleref21_Depth.l0 k x0 x1 (wrap64 (x5 - 1)))) else (none)) else (none)) else (none)) else (none)) else (some 0)
def beadleref21_Depth.f : Nat → List Int → Int → Option (Int)
  | 0, _, _ => none
  | k + 1, l0, a1 => beadleref21_Depth.l0 k l0 a1 (wrap64 (a1 - 1))
end
set_option maxHeartbeats 8000000 in
set_option maxRecDepth 100000 in
theorem beadleref21_Depth.calls (k : Nat) : ∀ (A0 : Option Addr) (c0 : Nat) (l0 : List Int) (a1 : Int) (r : Int) (w : World) (hr0 : Kd.C (Kd.int .i64) w A0 l0.length l0) (hc0 : l0.length ≤ c0) (h : beadleref21_Depth.f k l0 a1 = some r),
    Calls Tryz.prog 19 #[.slice A0 l0.length c0, .int .i64 a1] w fun e w' => e = .returned (.int .i64 r) ∧ Drawn0 w w' := by
  induction k using Nat.strongRecOn with
  | _ k ih =>
  intro A0 c0 l0 a1 r w hr0 hc0 h
  cases k with
  | zero => exact absurd h (by simp [beadleref21_Depth.f])
  | succ k =>
  simp only [beadleref21_Depth.f] at h
  have HR0 := Aside0.mk hr0
  have HC0 := Aside0.mk hc0
  clear hr0 hc0
  have H : (beadleref21_Depth.l0 k l0 a1 (wrap64 (a1 - 1))) = some r := h
  clear h
  have H' := Aside0.mk H
  clear H
  go_enter Tryz.func19, Tryz.ntmps19
  go_wp2
  repeat (go_quiet (fail); try go_wp2)
  go_loopg [5] k (fun kq v5 w' => ∃ (x5_1 : Int), v5 = .int .i64 x5_1 ∧ Aside0 (beadleref21_Depth.l0 kq l0 a1 x5_1 = some r) ∧ Aside0 (kq ≤ k) ∧ Drawn0 w w')
  case atStart => exact ⟨(wrap64 (a1 - 1)), (by first | rfl | (simp; done) | (simp [*]; done)), H', ⟨Nat.le_refl _⟩, by repeat (first | exact Drawn0.refl _ | apply Drawn0.step)⟩
  case round =>
    clear H'
    try clear c1
    try clear p2
    obtain ⟨x5_1, rfl, HA, HK1, ⟨m1, rfl⟩⟩ := hrel
    cases gk with
    | zero => exact absurd HA.out (by simp [beadleref21_Depth.l0])
    | succ k1 =>
      have H := HA.out
      clear HA
      simp only [beadleref21_Depth.l0] at H
      by_cases c3 : x5_1 ≥ 0
      · rw [if_pos c3] at H
        have c3b0 : decide (0 ≤ x5_1) = true := decide_eq_true c3
        clear c3
        by_cases c4 : 0 ≤ x5_1
        · rw [if_pos c4] at H
          have c4b0 : decide (0 ≤ x5_1) = true := decide_eq_true c4
          clear c4
          by_cases c5 : x5_1 < (l0.length : Int)
          · rw [if_pos c5] at H
            have c5b0 : decide (x5_1 < (l0.length : Int)) = true := decide_eq_true c5
            clear c5
            by_cases c6 : 0 ≤ a1
            · rw [if_pos c6] at H
              have c6b0 : decide (0 ≤ a1) = true := decide_eq_true c6
              clear c6
              by_cases c7 : a1 < (l0.length : Int)
              · rw [if_pos c7] at H
                have c7b0 : decide (a1 < (l0.length : Int)) = true := decide_eq_true c7
                clear c7
                by_cases c8 : (rd l0 x5_1) < (rd l0 a1)
                · rw [if_pos c8] at H
                  have c8b0 : decide ((rd l0 x5_1) < (rd l0 a1)) = true := decide_eq_true c8
                  clear c8
                  replace H := Option.bind_eq_some_iff.mp H
                  obtain ⟨t298, A90, H⟩ := H
                  replace H : (some (wrap64 (1 + t298))) = some r := H
                  have A9 := Aside0.mk A90
                  clear A90
                  obtain rfl := Option.some.inj H
                  have p296 : 0 ≤ (x5_1 : Int) := of_decide_eq_true (by first | (with_reducible assumption) | assumption)
                  have q296 : x5_1 < (l0.length : Int) := of_decide_eq_true (by first | (with_reducible assumption) | assumption)
                  obtain ⟨ad296, e296, hx296_0⟩ := Kd.at_int HR0.out x5_1 p296 q296
                  cases e296
                  replace p296 := eq_true p296
                  replace q296 := eq_true q296
                  have p297 : 0 ≤ (a1 : Int) := of_decide_eq_true (by first | (with_reducible assumption) | assumption)
                  have q297 : a1 < (l0.length : Int) := of_decide_eq_true (by first | (with_reducible assumption) | assumption)
                  obtain ⟨ad297, e297, hx297_0⟩ := Kd.at_int HR0.out a1 p297 q297
                  obtain rfl : ad296 = ad297 := (by injection e297)
                  replace p297 := eq_true p297
                  replace q297 := eq_true q297
                  go_wp2_with (first | (go_at_call 19; (with_reducible refine (ih k1 (by have := HK1.out; omega) _ _ l0 x5_1 t298 _ ?side1 ?side2 A9.out).mono ?_); (case side1 => repeat (first | exact HR0.out | (with_reducible refine Kd.C_alloc ?_ _) | (with_reducible refine Kd.C_drewN ?_ _) | (with_reducible refine Kd.C_drew ?_))); (case side2 => exact HC0.out); rintro e w' ⟨rfl, ⟨nd, rfl⟩⟩; (try first | exact ⟨rfl, _, World.drewN_drewN _ _ _⟩ | exact ⟨rfl, _, Eq.trans (World.drewN_drewN _ _ _) (congrArg (World.drewN _) (Nat.add_assoc _ _ _))⟩)))
                  repeat (go_quiet (first | (go_at_call 19; (with_reducible refine (ih k1 (by have := HK1.out; omega) _ _ l0 x5_1 t298 _ ?side1 ?side2 A9.out).mono ?_); (case side1 => repeat (first | exact HR0.out | (with_reducible refine Kd.C_alloc ?_ _) | (with_reducible refine Kd.C_drewN ?_ _) | (with_reducible refine Kd.C_drew ?_))); (case side2 => exact HC0.out); rintro e w' ⟨rfl, ⟨nd, rfl⟩⟩; (try first | exact ⟨rfl, _, World.drewN_drewN _ _ _⟩ | exact ⟨rfl, _, Eq.trans (World.drewN_drewN _ _ _) (congrArg (World.drewN _) (Nat.add_assoc _ _ _))⟩))); try go_wp2_with (first | (go_at_call 19; (with_reducible refine (ih k1 (by have := HK1.out; omega) _ _ l0 x5_1 t298 _ ?side1 ?side2 A9.out).mono ?_); (case side1 => repeat (first | exact HR0.out | (with_reducible refine Kd.C_alloc ?_ _) | (with_reducible refine Kd.C_drewN ?_ _) | (with_reducible refine Kd.C_drew ?_))); (case side2 => exact HC0.out); rintro e w' ⟨rfl, ⟨nd, rfl⟩⟩; (try first | exact ⟨rfl, _, World.drewN_drewN _ _ _⟩ | exact ⟨rfl, _, Eq.trans (World.drewN_drewN _ _ _) (congrArg (World.drewN _) (Nat.add_assoc _ _ _))⟩))))
                  go_ret
                  exact ⟨by first | rfl | (simp; done) | (simp [*]; done), by repeat (first | exact Drawn0.refl _ | apply Drawn0.step)⟩
                · rw [if_neg c8] at H
                  have c8b0 : decide ((rd l0 x5_1) < (rd l0 a1)) = false := decide_eq_false c8
                  clear c8
                  have H' := Aside0.mk H
                  clear H
                  have p296 : 0 ≤ (x5_1 : Int) := of_decide_eq_true (by first | (with_reducible assumption) | assumption)
                  have q296 : x5_1 < (l0.length : Int) := of_decide_eq_true (by first | (with_reducible assumption) | assumption)
                  obtain ⟨ad296, e296, hx296_0⟩ := Kd.at_int HR0.out x5_1 p296 q296
                  cases e296
                  replace p296 := eq_true p296
                  replace q296 := eq_true q296
                  have p297 : 0 ≤ (a1 : Int) := of_decide_eq_true (by first | (with_reducible assumption) | assumption)
                  have q297 : a1 < (l0.length : Int) := of_decide_eq_true (by first | (with_reducible assumption) | assumption)
                  obtain ⟨ad297, e297, hx297_0⟩ := Kd.at_int HR0.out a1 p297 q297
                  obtain rfl : ad296 = ad297 := (by injection e297)
                  replace p297 := eq_true p297
                  replace q297 := eq_true q297
                  go_wp2
                  repeat (go_quiet (fail); try go_wp2)
                  go_roundg k1
                  case measure => have := HK1.out; omega
                  case rel => exact ⟨(wrap64 (x5_1 - 1)), (by first | rfl | (simp; done) | (simp [*]; done)), H', ⟨by have := HK1.out; omega⟩, by repeat (first | exact Drawn0.refl _ | apply Drawn0.step)⟩
              · rw [if_neg c7] at H
                exact absurd H (by simp)
            · rw [if_neg c6] at H
              exact absurd H (by simp)
          · rw [if_neg c5] at H
            exact absurd H (by simp)
        · rw [if_neg c4] at H
          exact absurd H (by simp)
      · rw [if_neg c3] at H
        have c3b0 : decide (0 ≤ x5_1) = false := decide_eq_false c3
        clear c3
        obtain rfl := Option.some.inj H
        go_wp2
        repeat (go_quiet (fail); try go_wp2)
        go_ret
        exact ⟨by first | rfl | (simp; done) | (simp [*]; done), by repeat (first | exact Drawn0.refl _ | apply Drawn0.step)⟩
end Go.Proofs.YtomdidopflebjaaGreatDoor.PM
namespace Go.Proofs.YtomdidopflebjaaGreatDoor.PM
open Go.RowKit Go.Proofs.YtomdidopflebjaaGreatDoorW.PrintWords Go.Proofs.YtomdidopflebjaaGreatDoorW.PrintLast Go.Proofs.YtomdidopflebjaaGreatDoorW.PrintMore Go.Proofs.YtomdidopflebjaaGreatDoor.Glob
attribute [local go_sem] max2_int min2_int max_two min_two max_three min_three max_four min_four   -- for this text's walks alone
set_option linter.unusedVariables false
set_option linter.unusedSimpArgs false
def beadlelaw21_OutlineDepths.l0 : Nat → List Int → List Int → List (S47) → Int → Option (Bool)
  | 0, _, _, _, _ => none
  | k + 1, x0, x3, x4, x5 => if x5 < (x0.length : Int) then (if 0 ≤ x5 then (if x5 < (x4.length : Int) then (if ((rd_T47 x4 x5).f0) = x5 then ((beadleref21_Depth.f k x0 x5).bind fun t470 => (if ((rd_T47 x4 x5).f1) = t470 then (if x5 < (x3.length : Int) then (if (rd x3 x5) = (rd x0 x5) then (beadlelaw21_OutlineDepths.l0 k x0 x3 x4 (wrap64 (x5 + 1))) else (some false)) else (none)) else (some false))) else (some false)) else (none)) else (none)) else (some true)
def beadlelaw21_OutlineDepths.f (k : Nat) (l0 : List Int) : Option (Bool) := (beadlelaw21_speaks.f k).bind fun t458 => (if t458 = true then (if (l0.length : Int) > 300 then (some true) else ((some (([] : List Int) : List Int)).bind fun y459 => (if y459.length + l0.length < 17592186044416 then ((some (y459 ++ l0 : List Int)).bind fun y462 => ((outline_Sections.f k y462).bind fun t465 => (if (t465.length : Int) = (l0.length : Int) then (beadlelaw21_OutlineDepths.l0 k l0 y462 t465 0) else (some false)))) else (none)))) else (some false))
set_option maxHeartbeats 8000000 in
set_option maxRecDepth 100000 in
theorem beadlelaw21_OutlineDepths.calls (k : Nat) (A0 : Option Addr) (c0 : Nat) (l0 : List Int) (r : Bool) (w : World) (hr0 : Kd.C (Kd.int .i64) w A0 l0.length l0) (hc0 : l0.length ≤ c0) (hG : GW w) (h : beadlelaw21_OutlineDepths.f k l0 = some r) :
    Calls Tryz.prog 4 #[.slice A0 l0.length c0] w fun e w' => e = .returned (.bool r) ∧ Below w.heap.size w w' := by
  have HG := Aside0.mk hG
  clear hG
  have HR0 := Aside0.mk hr0
  have HC0 := Aside0.mk hc0
  clear hr0 hc0
  have HB := Aside0.mk (Below.refl w.heap.size w)
  have H : ((beadlelaw21_speaks.f k).bind fun t458 => (if t458 = true then (if (l0.length : Int) > 300 then (some true) else ((some (([] : List Int) : List Int)).bind fun y459 => (if y459.length + l0.length < 17592186044416 then ((some (y459 ++ l0 : List Int)).bind fun y462 => ((outline_Sections.f k y462).bind fun t465 => (if (t465.length : Int) = (l0.length : Int) then (beadlelaw21_OutlineDepths.l0 k l0 y462 t465 0) else (some false)))) else (none)))) else (some false))) = some r := h
  clear h
  replace H := Option.bind_eq_some_iff.mp H
  obtain ⟨t458, A20, H⟩ := H
  replace H : (if t458 = true then (if (l0.length : Int) > 300 then (some true) else ((some (([] : List Int) : List Int)).bind fun y459 => (if y459.length + l0.length < 17592186044416 then ((some (y459 ++ l0 : List Int)).bind fun y462 => ((outline_Sections.f k y462).bind fun t465 => (if (t465.length : Int) = (l0.length : Int) then (beadlelaw21_OutlineDepths.l0 k l0 y462 t465 0) else (some false)))) else (none)))) else (some false)) = some r := H
  have A2 := Aside0.mk A20
  clear A20
  by_cases c3 : t458 = true
  · subst c3
    have H1 : (if (l0.length : Int) > 300 then (some true) else ((some (([] : List Int) : List Int)).bind fun y459 => (if y459.length + l0.length < 17592186044416 then ((some (y459 ++ l0 : List Int)).bind fun y462 => ((outline_Sections.f k y462).bind fun t465 => (if (t465.length : Int) = (l0.length : Int) then (beadlelaw21_OutlineDepths.l0 k l0 y462 t465 0) else (some false)))) else (none)))) = some r := by rw [if_pos rfl] at H; exact H
    clear H
    have H := H1
    clear H1
    by_cases c4 : (l0.length : Int) > 300
    · rw [if_pos c4] at H
      have c4b0 : decide (300 < (l0.length : Int)) = true := decide_eq_true c4
      have c4b1 : decide (300 < l0.length) = true := decide_eq_true (by omega)
      clear c4
      obtain rfl := Option.some.inj H
      go_enter Tryz.func4, Tryz.ntmps4
      go_wp2_with (first | (go_at_call 7; (with_reducible refine (beadlelaw21_speaks.calls k  true _ (by repeat (first | exact GW.below HG.out HB.out | exact HG.out | (with_reducible refine GW.alloc ?_ _) | (with_reducible refine GW.drewN ?_ _) | (with_reducible refine GW.drew ?_))) A2.out).mono ?_); rintro e w5 ⟨rfl, hb⟩; have n0_ := Aside0.mk (below_step (by repeat (first | (with_reducible first | exact HB.out | apply below_alloc | apply pw_below_drewN | apply below_drew1) | exact HB.out)) hb); clear HB; have HB := n0_; clear n0_; (try clear hb); (try clear hb2); (try clear hk); (try clear hi)))
      repeat (go_quiet (first | (go_at_call 7; (with_reducible refine (beadlelaw21_speaks.calls k  true _ (by repeat (first | exact GW.below HG.out HB.out | exact HG.out | (with_reducible refine GW.alloc ?_ _) | (with_reducible refine GW.drewN ?_ _) | (with_reducible refine GW.drew ?_))) A2.out).mono ?_); rintro e w5 ⟨rfl, hb⟩; have n0_ := Aside0.mk (below_step (by repeat (first | (with_reducible first | exact HB.out | apply below_alloc | apply pw_below_drewN | apply below_drew1) | exact HB.out)) hb); clear HB; have HB := n0_; clear n0_; (try clear hb); (try clear hb2); (try clear hk); (try clear hi))); try go_wp2_with (first | (go_at_call 7; (with_reducible refine (beadlelaw21_speaks.calls k  true _ (by repeat (first | exact GW.below HG.out HB.out | exact HG.out | (with_reducible refine GW.alloc ?_ _) | (with_reducible refine GW.drewN ?_ _) | (with_reducible refine GW.drew ?_))) A2.out).mono ?_); rintro e w5 ⟨rfl, hb⟩; have n0_ := Aside0.mk (below_step (by repeat (first | (with_reducible first | exact HB.out | apply below_alloc | apply pw_below_drewN | apply below_drew1) | exact HB.out)) hb); clear HB; have HB := n0_; clear n0_; (try clear hb); (try clear hb2); (try clear hk); (try clear hi))))
      go_ret
      exact ⟨by first | rfl | (simp [errW_none, errW_some] <;> rfl) | (simp [*, errW_none, errW_some] <;> rfl), by repeat (first | (with_reducible first | exact HB.out | apply below_alloc | apply pw_below_drewN | apply below_drew1) | exact HB.out)⟩
    · rw [if_neg c4] at H
      have c4b0 : decide (300 < (l0.length : Int)) = false := decide_eq_false c4
      have c4b1 : decide (300 < l0.length) = false := decide_eq_false (by omega)
      clear c4
      obtain ⟨y459, hy459⟩ : ∃ y_ : List Int, y_ = (([] : List Int)) := ⟨_, rfl⟩
      replace H : (if y459.length + l0.length < 17592186044416 then ((some (y459 ++ l0 : List Int)).bind fun y462 => ((outline_Sections.f k y462).bind fun t465 => (if (t465.length : Int) = (l0.length : Int) then (beadlelaw21_OutlineDepths.l0 k l0 y462 t465 0) else (some false)))) else (none)) = some r := by first | (rw [hy459]; with_reducible exact H) | (have H2_ := (Option.bind_some _ _).symm.trans H; rw [hy459]; with_reducible exact H2_) | (have H2_ := (Option.bind_some _ _).symm.trans H; with_reducible exact H2_) | with_reducible exact H | (rw [hy459]; exact H) | exact H
      have Ny459 := Aside0.mk hy459
      clear hy459
      by_cases c6 : y459.length + l0.length < 17592186044416
      · rw [if_pos c6] at H
        have LMc6 := Aside0.mk c6
        clear c6
        obtain ⟨y462, hy462⟩ : ∃ y_ : List Int, y_ = (y459 ++ l0) := ⟨_, rfl⟩
        replace H : ((outline_Sections.f k y462).bind fun t465 => (if (t465.length : Int) = (l0.length : Int) then (beadlelaw21_OutlineDepths.l0 k l0 y462 t465 0) else (some false))) = some r := by first | (rw [hy462]; with_reducible exact H) | (have H2_ := (Option.bind_some _ _).symm.trans H; rw [hy462]; with_reducible exact H2_) | (have H2_ := (Option.bind_some _ _).symm.trans H; with_reducible exact H2_) | with_reducible exact H | (rw [hy462]; exact H) | exact H
        have Ny462 := Aside0.mk hy462
        clear hy462
        replace H := Option.bind_eq_some_iff.mp H
        obtain ⟨t465, A70, H⟩ := H
        replace H : (if (t465.length : Int) = (l0.length : Int) then (beadlelaw21_OutlineDepths.l0 k l0 y462 t465 0) else (some false)) = some r := H
        have A7 := Aside0.mk A70
        clear A70
        by_cases c8 : (t465.length : Int) = (l0.length : Int)
        · rw [if_pos c8] at H
          have c8b0 : ((t465.length : Int) == (l0.length : Int)) = true := beq_iff_eq.mpr c8
          have c8b1 : ((t465.length : Int) != (l0.length : Int)) = false := bne_eq_false_iff_eq.mpr c8
          have c8b2 : (t465.length == l0.length) = true := by first | simpa using c8 | (simp at c8 ⊢; omega)
          clear c8
          have H' := Aside0.mk H
          clear H
          go_enter Tryz.func4, Tryz.ntmps4
          go_wp2_with (first | (go_at_call 7; (with_reducible refine (beadlelaw21_speaks.calls k  true _ (by repeat (first | exact GW.below HG.out HB.out | exact HG.out | (with_reducible refine GW.alloc ?_ _) | (with_reducible refine GW.drewN ?_ _) | (with_reducible refine GW.drew ?_))) A2.out).mono ?_); rintro e w9 ⟨rfl, hb⟩; have n0_ := Aside0.mk (below_step (by repeat (first | (with_reducible first | exact HB.out | apply below_alloc | apply pw_below_drewN | apply below_drew1) | exact HB.out)) hb); clear HB; have HB := n0_; clear n0_; (try clear hb); (try clear hb2); (try clear hk); (try clear hi)) | ((with_reducible refine gate_dst (N := 11) rfl ?_); refine Kd.R_lit (Kd.int .i64) _ 3 ?hg (N := 11) ?hd (xs := ([] : List Int)) (inner := []) (ok := fun _ => True) (okp := fun _ => True) ?hr ?hp (fun _ hk => hk) trivial (Below.refl _ _) (Nat.le_refl _) (by simp) ?_; (case hd => rfl); (case hg => rfl); (case hr => first | (go_simp; done) | (go_simp; rfl)); (case hp => exact (Reps.none _ _)); intro v460 w10 ho11 hb hg_ hnew_; clear hg_ hnew_; (first | rw [← Ny459.out] at ho11 | (simp only [Int.reduceToNat] at ho11; rw [← Ny459.out] at ho11)); have n0_ := Aside0.mk (Kd.R_lower ho11 (below_size (by repeat (first | (with_reducible first | exact HB.out | apply below_alloc | apply pw_below_drewN | apply below_drew1) | exact HB.out)))); have n1_ := Aside0.mk (below_step (by repeat (first | (with_reducible first | exact HB.out | apply below_alloc | apply pw_below_drewN | apply below_drew1) | exact HB.out)) hb); clear HB; have HO461 := n0_; have HB := n1_; clear n0_ n1_; clear hb ho11) | ((with_reducible refine gate_builtin (b := .append) (xs := #[.tmp 11, .tmp 12]) rfl ?_); at_builtin; refine Kd.R_append_rows (Kd.int .i64) (w0 := w) w.heap.size rfl (.tmp 11) (.tmp 12) 30 3 (.int .i64 0) 8 rfl Tryz.underlying30 info3 rfl (by decide) (by omega) v460 y459 l0 _ _ _ (fun _ => True) (fun _ => False) rfl rfl ?aO ?aR (fun _ _ h => h) (fun _ h => h.elim) ?aF ?aB ?aS ?aL ?_; (case aR => repeat (first | exact (Kd.C_below HR0.out HB.out) | (with_reducible refine Kd.C_alloc ?_ _) | (with_reducible refine Kd.C_drewN ?_ _) | (with_reducible refine Kd.C_drew ?_))); (case aB => exact (by repeat (first | (with_reducible first | exact HB.out | apply below_alloc | apply pw_below_drewN | apply below_drew1) | exact HB.out))); (case aF => exact (fun _ _ => trivial)); (case aO => exact (by (with_reducible repeat (first | apply Kd.R_alloc | apply Kd.R_drewN | apply Kd.R_drew)); exact HO461.out)); (case aS => exact (below_size (by repeat (first | (with_reducible first | exact HB.out | apply below_alloc | apply pw_below_drewN | apply below_drew1) | exact HB.out)))); (case aL => have := LMc6.out; omega); intro v463 w12 ho hb hg hat; rw [← Ny462.out] at ho; have n0_ := Aside0.mk (hb); have n1_ := Aside0.mk (ho); clear HB; clear HO461; have HB := n0_; have HO464 := n1_; clear n0_ n1_; clear ho hb hg hat; obtain ⟨Ao13, co13, eo13⟩ := Kd.R_slice HO464.out; subst eo13) | (go_at_call 18; (with_reducible refine (outline_Sections.calls k _ _ y462 t465 _ ?side1 ?side2 A7.out).mono ?_); (case side1 => repeat (first | exact (Kd.R_reads' HO464.out).2.2 | (with_reducible refine Kd.C_alloc ?_ _) | (with_reducible refine Kd.C_drewN ?_ _) | (with_reducible refine Kd.C_drew ?_))); (case side2 => exact (Kd.R_reads' HO464.out).2.1); rintro e w14 ⟨v466, rfl, ho0, hb⟩; have n0_ := Aside0.mk (Kd.R_below (by (with_reducible repeat (first | apply Kd.R_alloc | apply Kd.R_drewN | apply Kd.R_drew)); exact HO464.out) hb); have n1_ := Aside0.mk (Kd.R_lower ho0 (below_size (by repeat (first | (with_reducible first | exact HB.out | apply below_alloc | apply pw_below_drewN | apply below_drew1) | exact HB.out)))); have n2_ := Aside0.mk (below_step (by repeat (first | (with_reducible first | exact HB.out | apply below_alloc | apply pw_below_drewN | apply below_drew1) | exact HB.out)) hb); clear HO464; clear HB; have HO464 := n0_; have HO467 := n1_; have HB := n2_; clear n0_ n1_ n2_; (try clear hb); (try clear hb2); (try clear hk); (try clear hi); (try clear ho0); obtain ⟨Ao15, co15, eo15⟩ := Kd.R_slice HO467.out; subst eo15))
          repeat (go_quiet (first | (go_at_call 7; (with_reducible refine (beadlelaw21_speaks.calls k  true _ (by repeat (first | exact GW.below HG.out HB.out | exact HG.out | (with_reducible refine GW.alloc ?_ _) | (with_reducible refine GW.drewN ?_ _) | (with_reducible refine GW.drew ?_))) A2.out).mono ?_); rintro e w9 ⟨rfl, hb⟩; have n0_ := Aside0.mk (below_step (by repeat (first | (with_reducible first | exact HB.out | apply below_alloc | apply pw_below_drewN | apply below_drew1) | exact HB.out)) hb); clear HB; have HB := n0_; clear n0_; (try clear hb); (try clear hb2); (try clear hk); (try clear hi)) | ((with_reducible refine gate_dst (N := 11) rfl ?_); refine Kd.R_lit (Kd.int .i64) _ 3 ?hg (N := 11) ?hd (xs := ([] : List Int)) (inner := []) (ok := fun _ => True) (okp := fun _ => True) ?hr ?hp (fun _ hk => hk) trivial (Below.refl _ _) (Nat.le_refl _) (by simp) ?_; (case hd => rfl); (case hg => rfl); (case hr => first | (go_simp; done) | (go_simp; rfl)); (case hp => exact (Reps.none _ _)); intro v460 w10 ho11 hb hg_ hnew_; clear hg_ hnew_; (first | rw [← Ny459.out] at ho11 | (simp only [Int.reduceToNat] at ho11; rw [← Ny459.out] at ho11)); have n0_ := Aside0.mk (Kd.R_lower ho11 (below_size (by repeat (first | (with_reducible first | exact HB.out | apply below_alloc | apply pw_below_drewN | apply below_drew1) | exact HB.out)))); have n1_ := Aside0.mk (below_step (by repeat (first | (with_reducible first | exact HB.out | apply below_alloc | apply pw_below_drewN | apply below_drew1) | exact HB.out)) hb); clear HB; have HO461 := n0_; have HB := n1_; clear n0_ n1_; clear hb ho11) | ((with_reducible refine gate_builtin (b := .append) (xs := #[.tmp 11, .tmp 12]) rfl ?_); at_builtin; refine Kd.R_append_rows (Kd.int .i64) (w0 := w) w.heap.size rfl (.tmp 11) (.tmp 12) 30 3 (.int .i64 0) 8 rfl Tryz.underlying30 info3 rfl (by decide) (by omega) v460 y459 l0 _ _ _ (fun _ => True) (fun _ => False) rfl rfl ?aO ?aR (fun _ _ h => h) (fun _ h => h.elim) ?aF ?aB ?aS ?aL ?_; (case aR => repeat (first | exact (Kd.C_below HR0.out HB.out) | (with_reducible refine Kd.C_alloc ?_ _) | (with_reducible refine Kd.C_drewN ?_ _) | (with_reducible refine Kd.C_drew ?_))); (case aB => exact (by repeat (first | (with_reducible first | exact HB.out | apply below_alloc | apply pw_below_drewN | apply below_drew1) | exact HB.out))); (case aF => exact (fun _ _ => trivial)); (case aO => exact (by (with_reducible repeat (first | apply Kd.R_alloc | apply Kd.R_drewN | apply Kd.R_drew)); exact HO461.out)); (case aS => exact (below_size (by repeat (first | (with_reducible first | exact HB.out | apply below_alloc | apply pw_below_drewN | apply below_drew1) | exact HB.out)))); (case aL => have := LMc6.out; omega); intro v463 w12 ho hb hg hat; rw [← Ny462.out] at ho; have n0_ := Aside0.mk (hb); have n1_ := Aside0.mk (ho); clear HB; clear HO461; have HB := n0_; have HO464 := n1_; clear n0_ n1_; clear ho hb hg hat; obtain ⟨Ao13, co13, eo13⟩ := Kd.R_slice HO464.out; subst eo13) | (go_at_call 18; (with_reducible refine (outline_Sections.calls k _ _ y462 t465 _ ?side1 ?side2 A7.out).mono ?_); (case side1 => repeat (first | exact (Kd.R_reads' HO464.out).2.2 | (with_reducible refine Kd.C_alloc ?_ _) | (with_reducible refine Kd.C_drewN ?_ _) | (with_reducible refine Kd.C_drew ?_))); (case side2 => exact (Kd.R_reads' HO464.out).2.1); rintro e w14 ⟨v466, rfl, ho0, hb⟩; have n0_ := Aside0.mk (Kd.R_below (by (with_reducible repeat (first | apply Kd.R_alloc | apply Kd.R_drewN | apply Kd.R_drew)); exact HO464.out) hb); have n1_ := Aside0.mk (Kd.R_lower ho0 (below_size (by repeat (first | (with_reducible first | exact HB.out | apply below_alloc | apply pw_below_drewN | apply below_drew1) | exact HB.out)))); have n2_ := Aside0.mk (below_step (by repeat (first | (with_reducible first | exact HB.out | apply below_alloc | apply pw_below_drewN | apply below_drew1) | exact HB.out)) hb); clear HO464; clear HB; have HO464 := n0_; have HO467 := n1_; have HB := n2_; clear n0_ n1_ n2_; (try clear hb); (try clear hb2); (try clear hk); (try clear hi); (try clear ho0); obtain ⟨Ao15, co15, eo15⟩ := Kd.R_slice HO467.out; subst eo15)); try go_wp2_with (first | (go_at_call 7; (with_reducible refine (beadlelaw21_speaks.calls k  true _ (by repeat (first | exact GW.below HG.out HB.out | exact HG.out | (with_reducible refine GW.alloc ?_ _) | (with_reducible refine GW.drewN ?_ _) | (with_reducible refine GW.drew ?_))) A2.out).mono ?_); rintro e w9 ⟨rfl, hb⟩; have n0_ := Aside0.mk (below_step (by repeat (first | (with_reducible first | exact HB.out | apply below_alloc | apply pw_below_drewN | apply below_drew1) | exact HB.out)) hb); clear HB; have HB := n0_; clear n0_; (try clear hb); (try clear hb2); (try clear hk); (try clear hi)) | ((with_reducible refine gate_dst (N := 11) rfl ?_); refine Kd.R_lit (Kd.int .i64) _ 3 ?hg (N := 11) ?hd (xs := ([] : List Int)) (inner := []) (ok := fun _ => True) (okp := fun _ => True) ?hr ?hp (fun _ hk => hk) trivial (Below.refl _ _) (Nat.le_refl _) (by simp) ?_; (case hd => rfl); (case hg => rfl); (case hr => first | (go_simp; done) | (go_simp; rfl)); (case hp => exact (Reps.none _ _)); intro v460 w10 ho11 hb hg_ hnew_; clear hg_ hnew_; (first | rw [← Ny459.out] at ho11 | (simp only [Int.reduceToNat] at ho11; rw [← Ny459.out] at ho11)); have n0_ := Aside0.mk (Kd.R_lower ho11 (below_size (by repeat (first | (with_reducible first | exact HB.out | apply below_alloc | apply pw_below_drewN | apply below_drew1) | exact HB.out)))); have n1_ := Aside0.mk (below_step (by repeat (first | (with_reducible first | exact HB.out | apply below_alloc | apply pw_below_drewN | apply below_drew1) | exact HB.out)) hb); clear HB; have HO461 := n0_; have HB := n1_; clear n0_ n1_; clear hb ho11) | ((with_reducible refine gate_builtin (b := .append) (xs := #[.tmp 11, .tmp 12]) rfl ?_); at_builtin; refine Kd.R_append_rows (Kd.int .i64) (w0 := w) w.heap.size rfl (.tmp 11) (.tmp 12) 30 3 (.int .i64 0) 8 rfl Tryz.underlying30 info3 rfl (by decide) (by omega) v460 y459 l0 _ _ _ (fun _ => True) (fun _ => False) rfl rfl ?aO ?aR (fun _ _ h => h) (fun _ h => h.elim) ?aF ?aB ?aS ?aL ?_; (case aR => repeat (first | exact (Kd.C_below HR0.out HB.out) | (with_reducible refine Kd.C_alloc ?_ _) | (with_reducible refine Kd.C_drewN ?_ _) | (with_reducible refine Kd.C_drew ?_))); (case aB => exact (by repeat (first | (with_reducible first | exact HB.out | apply below_alloc | apply pw_below_drewN | apply below_drew1) | exact HB.out))); (case aF => exact (fun _ _ => trivial)); (case aO => exact (by (with_reducible repeat (first | apply Kd.R_alloc | apply Kd.R_drewN | apply Kd.R_drew)); exact HO461.out)); (case aS => exact (below_size (by repeat (first | (with_reducible first | exact HB.out | apply below_alloc | apply pw_below_drewN | apply below_drew1) | exact HB.out)))); (case aL => have := LMc6.out; omega); intro v463 w12 ho hb hg hat; rw [← Ny462.out] at ho; have n0_ := Aside0.mk (hb); have n1_ := Aside0.mk (ho); clear HB; clear HO461; have HB := n0_; have HO464 := n1_; clear n0_ n1_; clear ho hb hg hat; obtain ⟨Ao13, co13, eo13⟩ := Kd.R_slice HO464.out; subst eo13) | (go_at_call 18; (with_reducible refine (outline_Sections.calls k _ _ y462 t465 _ ?side1 ?side2 A7.out).mono ?_); (case side1 => repeat (first | exact (Kd.R_reads' HO464.out).2.2 | (with_reducible refine Kd.C_alloc ?_ _) | (with_reducible refine Kd.C_drewN ?_ _) | (with_reducible refine Kd.C_drew ?_))); (case side2 => exact (Kd.R_reads' HO464.out).2.1); rintro e w14 ⟨v466, rfl, ho0, hb⟩; have n0_ := Aside0.mk (Kd.R_below (by (with_reducible repeat (first | apply Kd.R_alloc | apply Kd.R_drewN | apply Kd.R_drew)); exact HO464.out) hb); have n1_ := Aside0.mk (Kd.R_lower ho0 (below_size (by repeat (first | (with_reducible first | exact HB.out | apply below_alloc | apply pw_below_drewN | apply below_drew1) | exact HB.out)))); have n2_ := Aside0.mk (below_step (by repeat (first | (with_reducible first | exact HB.out | apply below_alloc | apply pw_below_drewN | apply below_drew1) | exact HB.out)) hb); clear HO464; clear HB; have HO464 := n0_; have HO467 := n1_; have HB := n2_; clear n0_ n1_ n2_; (try clear hb); (try clear hb2); (try clear hk); (try clear hi); (try clear ho0); obtain ⟨Ao15, co15, eo15⟩ := Kd.R_slice HO467.out; subst eo15)))
          go_loopg [5] k (fun kq v5 w' => ∃ (x5_1 : Int), v5 = .int .i64 x5_1 ∧ Aside0 (beadlelaw21_OutlineDepths.l0 kq l0 y462 t465 x5_1 = some r) ∧ Aside0 (kq ≤ k) ∧ Aside0 (Kd.R (Kd.int .i64) 3 w' w.heap.size (fun _ => True) (.slice Ao13 y462.length co13) y462) ∧ Aside0 (Kd.R k47 47 w' w.heap.size (fun _ => True) (.slice Ao15 t465.length co15) t465) ∧ Aside0 (Below w.heap.size w w'))
          case atStart => exact ⟨(0), (by first | rfl | (simp; done) | (simp [*]; done)), H', ⟨Nat.le_refl _⟩, ⟨by (with_reducible repeat (first | apply Kd.R_alloc | apply Kd.R_drewN | apply Kd.R_drew)); exact HO464.out⟩, ⟨by (with_reducible repeat (first | apply Kd.R_alloc | apply Kd.R_drewN | apply Kd.R_drew)); exact HO467.out⟩, ⟨by repeat (first | (with_reducible first | exact HB.out | apply below_alloc | apply pw_below_drewN | apply below_drew1) | exact HB.out)⟩⟩
          case round =>
            clear H'
            try clear p2
            try clear c3
            try clear c4
            try clear c4b0
            try clear c4b1
            try clear c6
            try clear c8
            try clear c8b0
            try clear c8b1
            try clear c8b2
            obtain ⟨x5_1, rfl, HA, HK1, HO_3, HO_4, HB⟩ := hrel
            cases gk with
            | zero => exact absurd HA.out (by simp [beadlelaw21_OutlineDepths.l0])
            | succ k1 =>
              have H := HA.out
              clear HA
              simp only [beadlelaw21_OutlineDepths.l0] at H
              by_cases c16 : x5_1 < (l0.length : Int)
              · rw [if_pos c16] at H
                have c16b0 : decide (x5_1 < (l0.length : Int)) = true := decide_eq_true c16
                clear c16
                by_cases c17 : 0 ≤ x5_1
                · rw [if_pos c17] at H
                  have c17b0 : decide (0 ≤ x5_1) = true := decide_eq_true c17
                  clear c17
                  by_cases c18 : x5_1 < (t465.length : Int)
                  · rw [if_pos c18] at H
                    have c18b0 : decide (x5_1 < (t465.length : Int)) = true := decide_eq_true c18
                    clear c18
                    by_cases c19 : ((rd_T47 t465 x5_1).f0) = x5_1
                    · rw [if_pos c19] at H
                      have c19b0 : (((rd_T47 t465 x5_1).f0) == x5_1) = true := beq_iff_eq.mpr c19
                      have c19b1 : (((rd_T47 t465 x5_1).f0) != x5_1) = false := bne_eq_false_iff_eq.mpr c19
                      clear c19
                      replace H := Option.bind_eq_some_iff.mp H
                      obtain ⟨t470, A200, H⟩ := H
                      replace H : (if ((rd_T47 t465 x5_1).f1) = t470 then (if x5_1 < (y462.length : Int) then (if (rd y462 x5_1) = (rd l0 x5_1) then (beadlelaw21_OutlineDepths.l0 k1 l0 y462 t465 (wrap64 (x5_1 + 1))) else (some false)) else (none)) else (some false)) = some r := H
                      have A20 := Aside0.mk A200
                      clear A200
                      by_cases c21 : ((rd_T47 t465 x5_1).f1) = t470
                      · rw [if_pos c21] at H
                        have c21b0 : (((rd_T47 t465 x5_1).f1) == t470) = true := beq_iff_eq.mpr c21
                        have c21b1 : (((rd_T47 t465 x5_1).f1) != t470) = false := bne_eq_false_iff_eq.mpr c21
                        clear c21
                        by_cases c22 : x5_1 < (y462.length : Int)
                        · rw [if_pos c22] at H
                          have c22b0 : decide (x5_1 < (y462.length : Int)) = true := decide_eq_true c22
                          clear c22
                          by_cases c23 : (rd y462 x5_1) = (rd l0 x5_1)
                          · rw [if_pos c23] at H
                            have c23b0 : ((rd y462 x5_1) == (rd l0 x5_1)) = true := beq_iff_eq.mpr c23
                            have c23b1 : ((rd y462 x5_1) != (rd l0 x5_1)) = false := bne_eq_false_iff_eq.mpr c23
                            clear c23
                            have H' := Aside0.mk H
                            clear H
                            have p468 : 0 ≤ (x5_1 : Int) := of_decide_eq_true (by first | (with_reducible assumption) | assumption)
                            have q468 : x5_1 < (t465.length : Int) := of_decide_eq_true (by first | (with_reducible assumption) | assumption)
                            obtain ⟨ad468, e468, hx468_0, hx468_1⟩ := at_T47 (Kd.R_reads' HO_4.out).2.2 x5_1 p468 q468
                            cases e468
                            replace p468 := eq_true p468
                            replace q468 := eq_true q468
                            have p469 : 0 ≤ (x5_1 : Int) := of_decide_eq_true (by first | (with_reducible assumption) | assumption)
                            have q469 : x5_1 < (t465.length : Int) := of_decide_eq_true (by first | (with_reducible assumption) | assumption)
                            obtain ⟨ad469, e469, hx469_0, hx469_1⟩ := at_T47 (Kd.R_reads' HO_4.out).2.2 x5_1 p469 q469
                            obtain rfl : ad468 = ad469 := (by injection e469)
                            replace p469 := eq_true p469
                            replace q469 := eq_true q469
                            go_wp2_with (first | (go_at_call 19; (with_reducible refine (beadleref21_Depth.calls k1 _ _ l0 x5_1 t470 _ ?side1 ?side2 A20.out).mono ?_); (case side1 => repeat (first | exact (Kd.C_below HR0.out HB.out) | (with_reducible refine Kd.C_alloc ?_ _) | (with_reducible refine Kd.C_drewN ?_ _) | (with_reducible refine Kd.C_drew ?_))); (case side2 => exact HC0.out); rintro e w' ⟨rfl, ⟨nd, rfl⟩⟩; (try first | exact ⟨rfl, _, World.drewN_drewN _ _ _⟩ | exact ⟨rfl, _, Eq.trans (World.drewN_drewN _ _ _) (congrArg (World.drewN _) (Nat.add_assoc _ _ _))⟩); have p471 : 0 ≤ (x5_1 : Int) := of_decide_eq_true (by first | (with_reducible assumption) | assumption); have q471 : x5_1 < (y462.length : Int) := of_decide_eq_true (by first | (with_reducible assumption) | assumption); obtain ⟨ad471, e471, hx471_0⟩ := Kd.at_int (Kd.R_reads' HO_3.out).2.2 x5_1 p471 q471; cases e471; replace p471 := eq_true p471; replace q471 := eq_true q471; have p472 : 0 ≤ (x5_1 : Int) := of_decide_eq_true (by first | (with_reducible assumption) | assumption); have q472 : x5_1 < (l0.length : Int) := of_decide_eq_true (by first | (with_reducible assumption) | assumption); obtain ⟨ad472, e472, hx472_0⟩ := Kd.at_int HR0.out x5_1 p472 q472; cases e472; replace hx472_0 := (HB.out.cell (World.block_lt_of_cell? w _ hx472_0)).trans hx472_0; replace p472 := eq_true p472; replace q472 := eq_true q472))
                            repeat (go_quiet (first | (go_at_call 19; (with_reducible refine (beadleref21_Depth.calls k1 _ _ l0 x5_1 t470 _ ?side1 ?side2 A20.out).mono ?_); (case side1 => repeat (first | exact (Kd.C_below HR0.out HB.out) | (with_reducible refine Kd.C_alloc ?_ _) | (with_reducible refine Kd.C_drewN ?_ _) | (with_reducible refine Kd.C_drew ?_))); (case side2 => exact HC0.out); rintro e w' ⟨rfl, ⟨nd, rfl⟩⟩; (try first | exact ⟨rfl, _, World.drewN_drewN _ _ _⟩ | exact ⟨rfl, _, Eq.trans (World.drewN_drewN _ _ _) (congrArg (World.drewN _) (Nat.add_assoc _ _ _))⟩); have p471 : 0 ≤ (x5_1 : Int) := of_decide_eq_true (by first | (with_reducible assumption) | assumption); have q471 : x5_1 < (y462.length : Int) := of_decide_eq_true (by first | (with_reducible assumption) | assumption); obtain ⟨ad471, e471, hx471_0⟩ := Kd.at_int (Kd.R_reads' HO_3.out).2.2 x5_1 p471 q471; cases e471; replace p471 := eq_true p471; replace q471 := eq_true q471; have p472 : 0 ≤ (x5_1 : Int) := of_decide_eq_true (by first | (with_reducible assumption) | assumption); have q472 : x5_1 < (l0.length : Int) := of_decide_eq_true (by first | (with_reducible assumption) | assumption); obtain ⟨ad472, e472, hx472_0⟩ := Kd.at_int HR0.out x5_1 p472 q472; cases e472; replace hx472_0 := (HB.out.cell (World.block_lt_of_cell? w _ hx472_0)).trans hx472_0; replace p472 := eq_true p472; replace q472 := eq_true q472)); try go_wp2_with (first | (go_at_call 19; (with_reducible refine (beadleref21_Depth.calls k1 _ _ l0 x5_1 t470 _ ?side1 ?side2 A20.out).mono ?_); (case side1 => repeat (first | exact (Kd.C_below HR0.out HB.out) | (with_reducible refine Kd.C_alloc ?_ _) | (with_reducible refine Kd.C_drewN ?_ _) | (with_reducible refine Kd.C_drew ?_))); (case side2 => exact HC0.out); rintro e w' ⟨rfl, ⟨nd, rfl⟩⟩; (try first | exact ⟨rfl, _, World.drewN_drewN _ _ _⟩ | exact ⟨rfl, _, Eq.trans (World.drewN_drewN _ _ _) (congrArg (World.drewN _) (Nat.add_assoc _ _ _))⟩); have p471 : 0 ≤ (x5_1 : Int) := of_decide_eq_true (by first | (with_reducible assumption) | assumption); have q471 : x5_1 < (y462.length : Int) := of_decide_eq_true (by first | (with_reducible assumption) | assumption); obtain ⟨ad471, e471, hx471_0⟩ := Kd.at_int (Kd.R_reads' HO_3.out).2.2 x5_1 p471 q471; cases e471; replace p471 := eq_true p471; replace q471 := eq_true q471; have p472 : 0 ≤ (x5_1 : Int) := of_decide_eq_true (by first | (with_reducible assumption) | assumption); have q472 : x5_1 < (l0.length : Int) := of_decide_eq_true (by first | (with_reducible assumption) | assumption); obtain ⟨ad472, e472, hx472_0⟩ := Kd.at_int HR0.out x5_1 p472 q472; cases e472; replace hx472_0 := (HB.out.cell (World.block_lt_of_cell? w _ hx472_0)).trans hx472_0; replace p472 := eq_true p472; replace q472 := eq_true q472)))
                            go_roundg k1
                            case measure => have := HK1.out; omega
                            case rel => exact ⟨(wrap64 (x5_1 + 1)), (by first | rfl | (simp; done) | (simp [*]; done)), H', ⟨by have := HK1.out; omega⟩, ⟨by (with_reducible repeat (first | apply Kd.R_alloc | apply Kd.R_drewN | apply Kd.R_drew)); exact HO_3.out⟩, ⟨by (with_reducible repeat (first | apply Kd.R_alloc | apply Kd.R_drewN | apply Kd.R_drew)); exact HO_4.out⟩, ⟨by repeat (first | (with_reducible first | exact HB.out | apply below_alloc | apply pw_below_drewN | apply below_drew1) | exact HB.out)⟩⟩
                          · rw [if_neg c23] at H
                            have c23b0 : ((rd y462 x5_1) == (rd l0 x5_1)) = false := beq_eq_false_iff_ne.mpr c23
                            have c23b1 : ((rd y462 x5_1) != (rd l0 x5_1)) = true := bne_iff_ne.mpr c23
                            obtain rfl := Option.some.inj H
                            have p468 : 0 ≤ (x5_1 : Int) := of_decide_eq_true (by first | (with_reducible assumption) | assumption)
                            have q468 : x5_1 < (t465.length : Int) := of_decide_eq_true (by first | (with_reducible assumption) | assumption)
                            obtain ⟨ad468, e468, hx468_0, hx468_1⟩ := at_T47 (Kd.R_reads' HO_4.out).2.2 x5_1 p468 q468
                            cases e468
                            replace p468 := eq_true p468
                            replace q468 := eq_true q468
                            have p469 : 0 ≤ (x5_1 : Int) := of_decide_eq_true (by first | (with_reducible assumption) | assumption)
                            have q469 : x5_1 < (t465.length : Int) := of_decide_eq_true (by first | (with_reducible assumption) | assumption)
                            obtain ⟨ad469, e469, hx469_0, hx469_1⟩ := at_T47 (Kd.R_reads' HO_4.out).2.2 x5_1 p469 q469
                            obtain rfl : ad468 = ad469 := (by injection e469)
                            replace p469 := eq_true p469
                            replace q469 := eq_true q469
                            go_wp2_with (first | (go_at_call 19; (with_reducible refine (beadleref21_Depth.calls k1 _ _ l0 x5_1 t470 _ ?side1 ?side2 A20.out).mono ?_); (case side1 => repeat (first | exact (Kd.C_below HR0.out HB.out) | (with_reducible refine Kd.C_alloc ?_ _) | (with_reducible refine Kd.C_drewN ?_ _) | (with_reducible refine Kd.C_drew ?_))); (case side2 => exact HC0.out); rintro e w' ⟨rfl, ⟨nd, rfl⟩⟩; (try first | exact ⟨rfl, _, World.drewN_drewN _ _ _⟩ | exact ⟨rfl, _, Eq.trans (World.drewN_drewN _ _ _) (congrArg (World.drewN _) (Nat.add_assoc _ _ _))⟩); have p471 : 0 ≤ (x5_1 : Int) := of_decide_eq_true (by first | (with_reducible assumption) | assumption); have q471 : x5_1 < (y462.length : Int) := of_decide_eq_true (by first | (with_reducible assumption) | assumption); obtain ⟨ad471, e471, hx471_0⟩ := Kd.at_int (Kd.R_reads' HO_3.out).2.2 x5_1 p471 q471; cases e471; replace p471 := eq_true p471; replace q471 := eq_true q471; have p472 : 0 ≤ (x5_1 : Int) := of_decide_eq_true (by first | (with_reducible assumption) | assumption); have q472 : x5_1 < (l0.length : Int) := of_decide_eq_true (by first | (with_reducible assumption) | assumption); obtain ⟨ad472, e472, hx472_0⟩ := Kd.at_int HR0.out x5_1 p472 q472; cases e472; replace hx472_0 := (HB.out.cell (World.block_lt_of_cell? w _ hx472_0)).trans hx472_0; replace p472 := eq_true p472; replace q472 := eq_true q472))
                            repeat (go_quiet (first | (go_at_call 19; (with_reducible refine (beadleref21_Depth.calls k1 _ _ l0 x5_1 t470 _ ?side1 ?side2 A20.out).mono ?_); (case side1 => repeat (first | exact (Kd.C_below HR0.out HB.out) | (with_reducible refine Kd.C_alloc ?_ _) | (with_reducible refine Kd.C_drewN ?_ _) | (with_reducible refine Kd.C_drew ?_))); (case side2 => exact HC0.out); rintro e w' ⟨rfl, ⟨nd, rfl⟩⟩; (try first | exact ⟨rfl, _, World.drewN_drewN _ _ _⟩ | exact ⟨rfl, _, Eq.trans (World.drewN_drewN _ _ _) (congrArg (World.drewN _) (Nat.add_assoc _ _ _))⟩); have p471 : 0 ≤ (x5_1 : Int) := of_decide_eq_true (by first | (with_reducible assumption) | assumption); have q471 : x5_1 < (y462.length : Int) := of_decide_eq_true (by first | (with_reducible assumption) | assumption); obtain ⟨ad471, e471, hx471_0⟩ := Kd.at_int (Kd.R_reads' HO_3.out).2.2 x5_1 p471 q471; cases e471; replace p471 := eq_true p471; replace q471 := eq_true q471; have p472 : 0 ≤ (x5_1 : Int) := of_decide_eq_true (by first | (with_reducible assumption) | assumption); have q472 : x5_1 < (l0.length : Int) := of_decide_eq_true (by first | (with_reducible assumption) | assumption); obtain ⟨ad472, e472, hx472_0⟩ := Kd.at_int HR0.out x5_1 p472 q472; cases e472; replace hx472_0 := (HB.out.cell (World.block_lt_of_cell? w _ hx472_0)).trans hx472_0; replace p472 := eq_true p472; replace q472 := eq_true q472)); try go_wp2_with (first | (go_at_call 19; (with_reducible refine (beadleref21_Depth.calls k1 _ _ l0 x5_1 t470 _ ?side1 ?side2 A20.out).mono ?_); (case side1 => repeat (first | exact (Kd.C_below HR0.out HB.out) | (with_reducible refine Kd.C_alloc ?_ _) | (with_reducible refine Kd.C_drewN ?_ _) | (with_reducible refine Kd.C_drew ?_))); (case side2 => exact HC0.out); rintro e w' ⟨rfl, ⟨nd, rfl⟩⟩; (try first | exact ⟨rfl, _, World.drewN_drewN _ _ _⟩ | exact ⟨rfl, _, Eq.trans (World.drewN_drewN _ _ _) (congrArg (World.drewN _) (Nat.add_assoc _ _ _))⟩); have p471 : 0 ≤ (x5_1 : Int) := of_decide_eq_true (by first | (with_reducible assumption) | assumption); have q471 : x5_1 < (y462.length : Int) := of_decide_eq_true (by first | (with_reducible assumption) | assumption); obtain ⟨ad471, e471, hx471_0⟩ := Kd.at_int (Kd.R_reads' HO_3.out).2.2 x5_1 p471 q471; cases e471; replace p471 := eq_true p471; replace q471 := eq_true q471; have p472 : 0 ≤ (x5_1 : Int) := of_decide_eq_true (by first | (with_reducible assumption) | assumption); have q472 : x5_1 < (l0.length : Int) := of_decide_eq_true (by first | (with_reducible assumption) | assumption); obtain ⟨ad472, e472, hx472_0⟩ := Kd.at_int HR0.out x5_1 p472 q472; cases e472; replace hx472_0 := (HB.out.cell (World.block_lt_of_cell? w _ hx472_0)).trans hx472_0; replace p472 := eq_true p472; replace q472 := eq_true q472)))
                            go_ret
                            exact ⟨by first | rfl | (simp [errW_none, errW_some] <;> rfl) | (simp [*, errW_none, errW_some] <;> rfl), by repeat (first | (with_reducible first | exact HB.out | apply below_alloc | apply pw_below_drewN | apply below_drew1) | exact HB.out)⟩
                        · rw [if_neg c22] at H
                          exact absurd H (by simp)
                      · rw [if_neg c21] at H
                        have c21b0 : (((rd_T47 t465 x5_1).f1) == t470) = false := beq_eq_false_iff_ne.mpr c21
                        have c21b1 : (((rd_T47 t465 x5_1).f1) != t470) = true := bne_iff_ne.mpr c21
                        obtain rfl := Option.some.inj H
                        have p468 : 0 ≤ (x5_1 : Int) := of_decide_eq_true (by first | (with_reducible assumption) | assumption)
                        have q468 : x5_1 < (t465.length : Int) := of_decide_eq_true (by first | (with_reducible assumption) | assumption)
                        obtain ⟨ad468, e468, hx468_0, hx468_1⟩ := at_T47 (Kd.R_reads' HO_4.out).2.2 x5_1 p468 q468
                        cases e468
                        replace p468 := eq_true p468
                        replace q468 := eq_true q468
                        have p469 : 0 ≤ (x5_1 : Int) := of_decide_eq_true (by first | (with_reducible assumption) | assumption)
                        have q469 : x5_1 < (t465.length : Int) := of_decide_eq_true (by first | (with_reducible assumption) | assumption)
                        obtain ⟨ad469, e469, hx469_0, hx469_1⟩ := at_T47 (Kd.R_reads' HO_4.out).2.2 x5_1 p469 q469
                        obtain rfl : ad468 = ad469 := (by injection e469)
                        replace p469 := eq_true p469
                        replace q469 := eq_true q469
                        go_wp2_with (first | (go_at_call 19; (with_reducible refine (beadleref21_Depth.calls k1 _ _ l0 x5_1 t470 _ ?side1 ?side2 A20.out).mono ?_); (case side1 => repeat (first | exact (Kd.C_below HR0.out HB.out) | (with_reducible refine Kd.C_alloc ?_ _) | (with_reducible refine Kd.C_drewN ?_ _) | (with_reducible refine Kd.C_drew ?_))); (case side2 => exact HC0.out); rintro e w' ⟨rfl, ⟨nd, rfl⟩⟩; (try first | exact ⟨rfl, _, World.drewN_drewN _ _ _⟩ | exact ⟨rfl, _, Eq.trans (World.drewN_drewN _ _ _) (congrArg (World.drewN _) (Nat.add_assoc _ _ _))⟩)))
                        repeat (go_quiet (first | (go_at_call 19; (with_reducible refine (beadleref21_Depth.calls k1 _ _ l0 x5_1 t470 _ ?side1 ?side2 A20.out).mono ?_); (case side1 => repeat (first | exact (Kd.C_below HR0.out HB.out) | (with_reducible refine Kd.C_alloc ?_ _) | (with_reducible refine Kd.C_drewN ?_ _) | (with_reducible refine Kd.C_drew ?_))); (case side2 => exact HC0.out); rintro e w' ⟨rfl, ⟨nd, rfl⟩⟩; (try first | exact ⟨rfl, _, World.drewN_drewN _ _ _⟩ | exact ⟨rfl, _, Eq.trans (World.drewN_drewN _ _ _) (congrArg (World.drewN _) (Nat.add_assoc _ _ _))⟩))); try go_wp2_with (first | (go_at_call 19; (with_reducible refine (beadleref21_Depth.calls k1 _ _ l0 x5_1 t470 _ ?side1 ?side2 A20.out).mono ?_); (case side1 => repeat (first | exact (Kd.C_below HR0.out HB.out) | (with_reducible refine Kd.C_alloc ?_ _) | (with_reducible refine Kd.C_drewN ?_ _) | (with_reducible refine Kd.C_drew ?_))); (case side2 => exact HC0.out); rintro e w' ⟨rfl, ⟨nd, rfl⟩⟩; (try first | exact ⟨rfl, _, World.drewN_drewN _ _ _⟩ | exact ⟨rfl, _, Eq.trans (World.drewN_drewN _ _ _) (congrArg (World.drewN _) (Nat.add_assoc _ _ _))⟩))))
                        go_ret
                        exact ⟨by first | rfl | (simp [errW_none, errW_some] <;> rfl) | (simp [*, errW_none, errW_some] <;> rfl), by repeat (first | (with_reducible first | exact HB.out | apply below_alloc | apply pw_below_drewN | apply below_drew1) | exact HB.out)⟩
                    · rw [if_neg c19] at H
                      have c19b0 : (((rd_T47 t465 x5_1).f0) == x5_1) = false := beq_eq_false_iff_ne.mpr c19
                      have c19b1 : (((rd_T47 t465 x5_1).f0) != x5_1) = true := bne_iff_ne.mpr c19
                      obtain rfl := Option.some.inj H
                      have p468 : 0 ≤ (x5_1 : Int) := of_decide_eq_true (by first | (with_reducible assumption) | assumption)
                      have q468 : x5_1 < (t465.length : Int) := of_decide_eq_true (by first | (with_reducible assumption) | assumption)
                      obtain ⟨ad468, e468, hx468_0, hx468_1⟩ := at_T47 (Kd.R_reads' HO_4.out).2.2 x5_1 p468 q468
                      cases e468
                      replace p468 := eq_true p468
                      replace q468 := eq_true q468
                      go_wp2
                      repeat (go_quiet (fail); try go_wp2)
                      go_ret
                      exact ⟨by first | rfl | (simp [errW_none, errW_some] <;> rfl) | (simp [*, errW_none, errW_some] <;> rfl), by repeat (first | (with_reducible first | exact HB.out | apply below_alloc | apply pw_below_drewN | apply below_drew1) | exact HB.out)⟩
                  · rw [if_neg c18] at H
                    exact absurd H (by simp)
                · rw [if_neg c17] at H
                  exact absurd H (by simp)
              · rw [if_neg c16] at H
                have c16b0 : decide (x5_1 < (l0.length : Int)) = false := decide_eq_false c16
                clear c16
                obtain rfl := Option.some.inj H
                go_wp2
                repeat (go_quiet (fail); try go_wp2)
                go_ret
                exact ⟨by first | rfl | (simp [errW_none, errW_some] <;> rfl) | (simp [*, errW_none, errW_some] <;> rfl), by repeat (first | (with_reducible first | exact HB.out | apply below_alloc | apply pw_below_drewN | apply below_drew1) | exact HB.out)⟩
        · rw [if_neg c8] at H
          have c8b0 : ((t465.length : Int) == (l0.length : Int)) = false := beq_eq_false_iff_ne.mpr c8
          have c8b1 : ((t465.length : Int) != (l0.length : Int)) = true := bne_iff_ne.mpr c8
          have c8b2 : (t465.length == l0.length) = false := by first | simpa using c8 | (simp at c8 ⊢; omega)
          obtain rfl := Option.some.inj H
          go_enter Tryz.func4, Tryz.ntmps4
          go_wp2_with (first | (go_at_call 7; (with_reducible refine (beadlelaw21_speaks.calls k  true _ (by repeat (first | exact GW.below HG.out HB.out | exact HG.out | (with_reducible refine GW.alloc ?_ _) | (with_reducible refine GW.drewN ?_ _) | (with_reducible refine GW.drew ?_))) A2.out).mono ?_); rintro e w24 ⟨rfl, hb⟩; have n0_ := Aside0.mk (below_step (by repeat (first | (with_reducible first | exact HB.out | apply below_alloc | apply pw_below_drewN | apply below_drew1) | exact HB.out)) hb); clear HB; have HB := n0_; clear n0_; (try clear hb); (try clear hb2); (try clear hk); (try clear hi)) | ((with_reducible refine gate_dst (N := 11) rfl ?_); refine Kd.R_lit (Kd.int .i64) _ 3 ?hg (N := 11) ?hd (xs := ([] : List Int)) (inner := []) (ok := fun _ => True) (okp := fun _ => True) ?hr ?hp (fun _ hk => hk) trivial (Below.refl _ _) (Nat.le_refl _) (by simp) ?_; (case hd => rfl); (case hg => rfl); (case hr => first | (go_simp; done) | (go_simp; rfl)); (case hp => exact (Reps.none _ _)); intro v460 w25 ho26 hb hg_ hnew_; clear hg_ hnew_; (first | rw [← Ny459.out] at ho26 | (simp only [Int.reduceToNat] at ho26; rw [← Ny459.out] at ho26)); have n0_ := Aside0.mk (Kd.R_lower ho26 (below_size (by repeat (first | (with_reducible first | exact HB.out | apply below_alloc | apply pw_below_drewN | apply below_drew1) | exact HB.out)))); have n1_ := Aside0.mk (below_step (by repeat (first | (with_reducible first | exact HB.out | apply below_alloc | apply pw_below_drewN | apply below_drew1) | exact HB.out)) hb); clear HB; have HO461 := n0_; have HB := n1_; clear n0_ n1_; clear hb ho26) | ((with_reducible refine gate_builtin (b := .append) (xs := #[.tmp 11, .tmp 12]) rfl ?_); at_builtin; refine Kd.R_append_rows (Kd.int .i64) (w0 := w) w.heap.size rfl (.tmp 11) (.tmp 12) 30 3 (.int .i64 0) 8 rfl Tryz.underlying30 info3 rfl (by decide) (by omega) v460 y459 l0 _ _ _ (fun _ => True) (fun _ => False) rfl rfl ?aO ?aR (fun _ _ h => h) (fun _ h => h.elim) ?aF ?aB ?aS ?aL ?_; (case aR => repeat (first | exact (Kd.C_below HR0.out HB.out) | (with_reducible refine Kd.C_alloc ?_ _) | (with_reducible refine Kd.C_drewN ?_ _) | (with_reducible refine Kd.C_drew ?_))); (case aB => exact (by repeat (first | (with_reducible first | exact HB.out | apply below_alloc | apply pw_below_drewN | apply below_drew1) | exact HB.out))); (case aF => exact (fun _ _ => trivial)); (case aO => exact (by (with_reducible repeat (first | apply Kd.R_alloc | apply Kd.R_drewN | apply Kd.R_drew)); exact HO461.out)); (case aS => exact (below_size (by repeat (first | (with_reducible first | exact HB.out | apply below_alloc | apply pw_below_drewN | apply below_drew1) | exact HB.out)))); (case aL => have := LMc6.out; omega); intro v463 w27 ho hb hg hat; rw [← Ny462.out] at ho; have n0_ := Aside0.mk (hb); have n1_ := Aside0.mk (ho); clear HB; clear HO461; have HB := n0_; have HO464 := n1_; clear n0_ n1_; clear ho hb hg hat; obtain ⟨Ao28, co28, eo28⟩ := Kd.R_slice HO464.out; subst eo28) | (go_at_call 18; (with_reducible refine (outline_Sections.calls k _ _ y462 t465 _ ?side1 ?side2 A7.out).mono ?_); (case side1 => repeat (first | exact (Kd.R_reads' HO464.out).2.2 | (with_reducible refine Kd.C_alloc ?_ _) | (with_reducible refine Kd.C_drewN ?_ _) | (with_reducible refine Kd.C_drew ?_))); (case side2 => exact (Kd.R_reads' HO464.out).2.1); rintro e w29 ⟨v466, rfl, ho0, hb⟩; have n0_ := Aside0.mk (Kd.R_below (by (with_reducible repeat (first | apply Kd.R_alloc | apply Kd.R_drewN | apply Kd.R_drew)); exact HO464.out) hb); have n1_ := Aside0.mk (Kd.R_lower ho0 (below_size (by repeat (first | (with_reducible first | exact HB.out | apply below_alloc | apply pw_below_drewN | apply below_drew1) | exact HB.out)))); have n2_ := Aside0.mk (below_step (by repeat (first | (with_reducible first | exact HB.out | apply below_alloc | apply pw_below_drewN | apply below_drew1) | exact HB.out)) hb); clear HO464; clear HB; have HO464 := n0_; have HO467 := n1_; have HB := n2_; clear n0_ n1_ n2_; (try clear hb); (try clear hb2); (try clear hk); (try clear hi); (try clear ho0); obtain ⟨Ao30, co30, eo30⟩ := Kd.R_slice HO467.out; subst eo30))
          repeat (go_quiet (first | (go_at_call 7; (with_reducible refine (beadlelaw21_speaks.calls k  true _ (by repeat (first | exact GW.below HG.out HB.out | exact HG.out | (with_reducible refine GW.alloc ?_ _) | (with_reducible refine GW.drewN ?_ _) | (with_reducible refine GW.drew ?_))) A2.out).mono ?_); rintro e w24 ⟨rfl, hb⟩; have n0_ := Aside0.mk (below_step (by repeat (first | (with_reducible first | exact HB.out | apply below_alloc | apply pw_below_drewN | apply below_drew1) | exact HB.out)) hb); clear HB; have HB := n0_; clear n0_; (try clear hb); (try clear hb2); (try clear hk); (try clear hi)) | ((with_reducible refine gate_dst (N := 11) rfl ?_); refine Kd.R_lit (Kd.int .i64) _ 3 ?hg (N := 11) ?hd (xs := ([] : List Int)) (inner := []) (ok := fun _ => True) (okp := fun _ => True) ?hr ?hp (fun _ hk => hk) trivial (Below.refl _ _) (Nat.le_refl _) (by simp) ?_; (case hd => rfl); (case hg => rfl); (case hr => first | (go_simp; done) | (go_simp; rfl)); (case hp => exact (Reps.none _ _)); intro v460 w25 ho26 hb hg_ hnew_; clear hg_ hnew_; (first | rw [← Ny459.out] at ho26 | (simp only [Int.reduceToNat] at ho26; rw [← Ny459.out] at ho26)); have n0_ := Aside0.mk (Kd.R_lower ho26 (below_size (by repeat (first | (with_reducible first | exact HB.out | apply below_alloc | apply pw_below_drewN | apply below_drew1) | exact HB.out)))); have n1_ := Aside0.mk (below_step (by repeat (first | (with_reducible first | exact HB.out | apply below_alloc | apply pw_below_drewN | apply below_drew1) | exact HB.out)) hb); clear HB; have HO461 := n0_; have HB := n1_; clear n0_ n1_; clear hb ho26) | ((with_reducible refine gate_builtin (b := .append) (xs := #[.tmp 11, .tmp 12]) rfl ?_); at_builtin; refine Kd.R_append_rows (Kd.int .i64) (w0 := w) w.heap.size rfl (.tmp 11) (.tmp 12) 30 3 (.int .i64 0) 8 rfl Tryz.underlying30 info3 rfl (by decide) (by omega) v460 y459 l0 _ _ _ (fun _ => True) (fun _ => False) rfl rfl ?aO ?aR (fun _ _ h => h) (fun _ h => h.elim) ?aF ?aB ?aS ?aL ?_; (case aR => repeat (first | exact (Kd.C_below HR0.out HB.out) | (with_reducible refine Kd.C_alloc ?_ _) | (with_reducible refine Kd.C_drewN ?_ _) | (with_reducible refine Kd.C_drew ?_))); (case aB => exact (by repeat (first | (with_reducible first | exact HB.out | apply below_alloc | apply pw_below_drewN | apply below_drew1) | exact HB.out))); (case aF => exact (fun _ _ => trivial)); (case aO => exact (by (with_reducible repeat (first | apply Kd.R_alloc | apply Kd.R_drewN | apply Kd.R_drew)); exact HO461.out)); (case aS => exact (below_size (by repeat (first | (with_reducible first | exact HB.out | apply below_alloc | apply pw_below_drewN | apply below_drew1) | exact HB.out)))); (case aL => have := LMc6.out; omega); intro v463 w27 ho hb hg hat; rw [← Ny462.out] at ho; have n0_ := Aside0.mk (hb); have n1_ := Aside0.mk (ho); clear HB; clear HO461; have HB := n0_; have HO464 := n1_; clear n0_ n1_; clear ho hb hg hat; obtain ⟨Ao28, co28, eo28⟩ := Kd.R_slice HO464.out; subst eo28) | (go_at_call 18; (with_reducible refine (outline_Sections.calls k _ _ y462 t465 _ ?side1 ?side2 A7.out).mono ?_); (case side1 => repeat (first | exact (Kd.R_reads' HO464.out).2.2 | (with_reducible refine Kd.C_alloc ?_ _) | (with_reducible refine Kd.C_drewN ?_ _) | (with_reducible refine Kd.C_drew ?_))); (case side2 => exact (Kd.R_reads' HO464.out).2.1); rintro e w29 ⟨v466, rfl, ho0, hb⟩; have n0_ := Aside0.mk (Kd.R_below (by (with_reducible repeat (first | apply Kd.R_alloc | apply Kd.R_drewN | apply Kd.R_drew)); exact HO464.out) hb); have n1_ := Aside0.mk (Kd.R_lower ho0 (below_size (by repeat (first | (with_reducible first | exact HB.out | apply below_alloc | apply pw_below_drewN | apply below_drew1) | exact HB.out)))); have n2_ := Aside0.mk (below_step (by repeat (first | (with_reducible first | exact HB.out | apply below_alloc | apply pw_below_drewN | apply below_drew1) | exact HB.out)) hb); clear HO464; clear HB; have HO464 := n0_; have HO467 := n1_; have HB := n2_; clear n0_ n1_ n2_; (try clear hb); (try clear hb2); (try clear hk); (try clear hi); (try clear ho0); obtain ⟨Ao30, co30, eo30⟩ := Kd.R_slice HO467.out; subst eo30)); try go_wp2_with (first | (go_at_call 7; (with_reducible refine (beadlelaw21_speaks.calls k  true _ (by repeat (first | exact GW.below HG.out HB.out | exact HG.out | (with_reducible refine GW.alloc ?_ _) | (with_reducible refine GW.drewN ?_ _) | (with_reducible refine GW.drew ?_))) A2.out).mono ?_); rintro e w24 ⟨rfl, hb⟩; have n0_ := Aside0.mk (below_step (by repeat (first | (with_reducible first | exact HB.out | apply below_alloc | apply pw_below_drewN | apply below_drew1) | exact HB.out)) hb); clear HB; have HB := n0_; clear n0_; (try clear hb); (try clear hb2); (try clear hk); (try clear hi)) | ((with_reducible refine gate_dst (N := 11) rfl ?_); refine Kd.R_lit (Kd.int .i64) _ 3 ?hg (N := 11) ?hd (xs := ([] : List Int)) (inner := []) (ok := fun _ => True) (okp := fun _ => True) ?hr ?hp (fun _ hk => hk) trivial (Below.refl _ _) (Nat.le_refl _) (by simp) ?_; (case hd => rfl); (case hg => rfl); (case hr => first | (go_simp; done) | (go_simp; rfl)); (case hp => exact (Reps.none _ _)); intro v460 w25 ho26 hb hg_ hnew_; clear hg_ hnew_; (first | rw [← Ny459.out] at ho26 | (simp only [Int.reduceToNat] at ho26; rw [← Ny459.out] at ho26)); have n0_ := Aside0.mk (Kd.R_lower ho26 (below_size (by repeat (first | (with_reducible first | exact HB.out | apply below_alloc | apply pw_below_drewN | apply below_drew1) | exact HB.out)))); have n1_ := Aside0.mk (below_step (by repeat (first | (with_reducible first | exact HB.out | apply below_alloc | apply pw_below_drewN | apply below_drew1) | exact HB.out)) hb); clear HB; have HO461 := n0_; have HB := n1_; clear n0_ n1_; clear hb ho26) | ((with_reducible refine gate_builtin (b := .append) (xs := #[.tmp 11, .tmp 12]) rfl ?_); at_builtin; refine Kd.R_append_rows (Kd.int .i64) (w0 := w) w.heap.size rfl (.tmp 11) (.tmp 12) 30 3 (.int .i64 0) 8 rfl Tryz.underlying30 info3 rfl (by decide) (by omega) v460 y459 l0 _ _ _ (fun _ => True) (fun _ => False) rfl rfl ?aO ?aR (fun _ _ h => h) (fun _ h => h.elim) ?aF ?aB ?aS ?aL ?_; (case aR => repeat (first | exact (Kd.C_below HR0.out HB.out) | (with_reducible refine Kd.C_alloc ?_ _) | (with_reducible refine Kd.C_drewN ?_ _) | (with_reducible refine Kd.C_drew ?_))); (case aB => exact (by repeat (first | (with_reducible first | exact HB.out | apply below_alloc | apply pw_below_drewN | apply below_drew1) | exact HB.out))); (case aF => exact (fun _ _ => trivial)); (case aO => exact (by (with_reducible repeat (first | apply Kd.R_alloc | apply Kd.R_drewN | apply Kd.R_drew)); exact HO461.out)); (case aS => exact (below_size (by repeat (first | (with_reducible first | exact HB.out | apply below_alloc | apply pw_below_drewN | apply below_drew1) | exact HB.out)))); (case aL => have := LMc6.out; omega); intro v463 w27 ho hb hg hat; rw [← Ny462.out] at ho; have n0_ := Aside0.mk (hb); have n1_ := Aside0.mk (ho); clear HB; clear HO461; have HB := n0_; have HO464 := n1_; clear n0_ n1_; clear ho hb hg hat; obtain ⟨Ao28, co28, eo28⟩ := Kd.R_slice HO464.out; subst eo28) | (go_at_call 18; (with_reducible refine (outline_Sections.calls k _ _ y462 t465 _ ?side1 ?side2 A7.out).mono ?_); (case side1 => repeat (first | exact (Kd.R_reads' HO464.out).2.2 | (with_reducible refine Kd.C_alloc ?_ _) | (with_reducible refine Kd.C_drewN ?_ _) | (with_reducible refine Kd.C_drew ?_))); (case side2 => exact (Kd.R_reads' HO464.out).2.1); rintro e w29 ⟨v466, rfl, ho0, hb⟩; have n0_ := Aside0.mk (Kd.R_below (by (with_reducible repeat (first | apply Kd.R_alloc | apply Kd.R_drewN | apply Kd.R_drew)); exact HO464.out) hb); have n1_ := Aside0.mk (Kd.R_lower ho0 (below_size (by repeat (first | (with_reducible first | exact HB.out | apply below_alloc | apply pw_below_drewN | apply below_drew1) | exact HB.out)))); have n2_ := Aside0.mk (below_step (by repeat (first | (with_reducible first | exact HB.out | apply below_alloc | apply pw_below_drewN | apply below_drew1) | exact HB.out)) hb); clear HO464; clear HB; have HO464 := n0_; have HO467 := n1_; have HB := n2_; clear n0_ n1_ n2_; (try clear hb); (try clear hb2); (try clear hk); (try clear hi); (try clear ho0); obtain ⟨Ao30, co30, eo30⟩ := Kd.R_slice HO467.out; subst eo30)))
          go_ret
          exact ⟨by first | rfl | (simp [errW_none, errW_some] <;> rfl) | (simp [*, errW_none, errW_some] <;> rfl), by repeat (first | (with_reducible first | exact HB.out | apply below_alloc | apply pw_below_drewN | apply below_drew1) | exact HB.out)⟩
      · rw [if_neg c6] at H
        exact absurd H (by simp)
  · replace c3 := Bool.eq_false_iff.mpr c3
    subst c3
    have H1 : (some false) = some r := by rw [if_neg (show ¬ (false = true) by decide)] at H; exact H
    clear H
    have H := H1
    clear H1
    obtain rfl := Option.some.inj H
    go_enter Tryz.func4, Tryz.ntmps4
    go_wp2_with (first | (go_at_call 7; (with_reducible refine (beadlelaw21_speaks.calls k  false _ (by repeat (first | exact GW.below HG.out HB.out | exact HG.out | (with_reducible refine GW.alloc ?_ _) | (with_reducible refine GW.drewN ?_ _) | (with_reducible refine GW.drew ?_))) A2.out).mono ?_); rintro e w31 ⟨rfl, hb⟩; have n0_ := Aside0.mk (below_step (by repeat (first | (with_reducible first | exact HB.out | apply below_alloc | apply pw_below_drewN | apply below_drew1) | exact HB.out)) hb); clear HB; have HB := n0_; clear n0_; (try clear hb); (try clear hb2); (try clear hk); (try clear hi)))
    repeat (go_quiet (first | (go_at_call 7; (with_reducible refine (beadlelaw21_speaks.calls k  false _ (by repeat (first | exact GW.below HG.out HB.out | exact HG.out | (with_reducible refine GW.alloc ?_ _) | (with_reducible refine GW.drewN ?_ _) | (with_reducible refine GW.drew ?_))) A2.out).mono ?_); rintro e w31 ⟨rfl, hb⟩; have n0_ := Aside0.mk (below_step (by repeat (first | (with_reducible first | exact HB.out | apply below_alloc | apply pw_below_drewN | apply below_drew1) | exact HB.out)) hb); clear HB; have HB := n0_; clear n0_; (try clear hb); (try clear hb2); (try clear hk); (try clear hi))); try go_wp2_with (first | (go_at_call 7; (with_reducible refine (beadlelaw21_speaks.calls k  false _ (by repeat (first | exact GW.below HG.out HB.out | exact HG.out | (with_reducible refine GW.alloc ?_ _) | (with_reducible refine GW.drewN ?_ _) | (with_reducible refine GW.drew ?_))) A2.out).mono ?_); rintro e w31 ⟨rfl, hb⟩; have n0_ := Aside0.mk (below_step (by repeat (first | (with_reducible first | exact HB.out | apply below_alloc | apply pw_below_drewN | apply below_drew1) | exact HB.out)) hb); clear HB; have HB := n0_; clear n0_; (try clear hb); (try clear hb2); (try clear hk); (try clear hi))))
    go_ret
    exact ⟨by first | rfl | (simp [errW_none, errW_some] <;> rfl) | (simp [*, errW_none, errW_some] <;> rfl), by repeat (first | (with_reducible first | exact HB.out | apply below_alloc | apply pw_below_drewN | apply below_drew1) | exact HB.out)⟩
end Go.Proofs.YtomdidopflebjaaGreatDoor.PM
section
set_option linter.unusedVariables false
namespace Go.Proofs.YtomdidopflebjaaGreatDoor.Opens
open Go.Proofs.YtomdidopflebjaaGreatDoorW.PrintWords
/-- Every weight is within the reach. -/
def Light {H : Type} (P : Program) (T : TypeId) (x : DataW H) : Prop := ∀ n ∈ x.weights P T, n ≤ 140737488351232
structure Opn {α : Type} (P : Program) (d : Kd α) (T : TypeId) (B : α → Nat) (Wf Sz : α → Prop) : Prop where
  cells : P.cellsOf T = d.sz
  open_ : ∀ {H : Type} {enc : TypeId × Value → H} {W : World} {base : Nat} {spare : Nat → Bool} {held : Bool} {fuel : Nat} {cs : List Value} {x : DataW H × List MemPlace},
    DataW.trod enc P W base spare held fuel T cs = some x → ∃ a, d.K W a cs ∧ B a ≤ Rows.uptoBulk x.1 ∧ Wf a ∧ (Light P T x.1 → Sz a)
theorem one_le {H : Type} (d : DataW H) : 1 ≤ Rows.uptoBulk d := by
  cases d with
  | lit l => cases l <;> simp [Rows.uptoBulk]
  | nil => simp [Rows.uptoBulk]
  | ptr d => simp [Rows.uptoBulk]
  | slice elems spare => simp [Rows.uptoBulk]
  | agg parts => simp [Rows.uptoBulk]
  | iface t d => simp [Rows.uptoBulk]
  | map entries => simp [Rows.uptoBulk]
  | held h => simp [Rows.uptoBulk]
theorem all_append {H : Type} (l r : List (DataW H)) : Rows.uptoBulkAll (l ++ r) = Rows.uptoBulkAll l + Rows.uptoBulkAll r := by
  induction l with
  | nil => simp [Rows.uptoBulkAll]
  | cons x l ih => simp only [List.cons_append, Rows.uptoBulkAll, ih]; omega
theorem bound {H : Type} {l : List (DataW H)} (hk : Rows.uptoSmall H l = true) : Rows.uptoBulkAll l ≤ 1048576 := of_decide_eq_true hk
section
variable {P : Program} {T : TypeId}
theorem Opn.int {k : IntKind} (hT : P.underlying T = some (.int k)) (hc : P.cellsOf T = 1) : Opn P (Kd.int k) T (fun _ => 1) (fun n => (Lit.int k n).wf = true) (fun _ => True) :=
  ⟨hc, fun h => by
    obtain ⟨n, rfl, rfl, hw⟩ := DataW.trod_int hT h
    exact ⟨n, rfl, one_le _, hw, fun _ => trivial⟩⟩
theorem weights_mem_all {H : Type} {e : TypeId} : ∀ {ds : List (DataW H)} {i : Nat} {d : DataW H}, ds[i]? = some d → ∀ n ∈ d.weights P e, n ∈ DataW.weightsAll P e ds
  | d0 :: ds, 0, d, h, n, hn => by
    obtain rfl : d0 = d := by simpa using h
    simp only [DataW.weightsAll, List.mem_append]
    exact .inl hn
  | d0 :: ds, i + 1, d, h, n, hn => by
    simp only [DataW.weightsAll, List.mem_append]
    exact .inr (weights_mem_all (by simpa using h) n hn)
  | [], i, d, h, _, _ => by simp at h
def sumB {α : Type} (B : α → Nat) (xs : List α) : Nat := (xs.map B).sum
theorem sumB_cons {α : Type} (B : α → Nat) (x : α) (xs : List α) : sumB B (x :: xs) = B x + sumB B xs := by simp [sumB]
theorem all_map_le {H α : Type} {B : α → Nat} {ys : List (DataW H)} {xs : List α} (hl : xs.length = ys.length) (h : ∀ (i : Nat) (x : α) (y : DataW H), xs[i]? = some x → ys[i]? = some y → B x ≤ Rows.uptoBulk y) : sumB B xs ≤ Rows.uptoBulkAll ys := by
  induction xs generalizing ys with
  | nil => simp [sumB]
  | cons x xs ih =>
    match ys, hl with
    | y :: ys, hl =>
      rw [sumB_cons]
      simp only [Rows.uptoBulkAll]
      have h0 := h 0 x y rfl rfl
      have := ih (ys := ys) (by simpa using hl) (fun i a b ha hb => h (i + 1) a b (by simpa using ha) (by simpa using hb))
      omega
theorem list_of {α : Type} {p : Nat → α → Prop} : ∀ n, (∀ i, i < n → ∃ a, p i a) → ∃ xs : List α, xs.length = n ∧ ∀ i x, xs[i]? = some x → p i x
  | 0, _ => ⟨[], rfl, fun i x h => by simp at h⟩
  | n + 1, h => by
    obtain ⟨xs, hl, hx⟩ := list_of n (fun i hi => h i (by omega))
    obtain ⟨a, ha⟩ := h n (by omega)
    refine ⟨xs ++ [a], by simp [hl], fun i x hi => ?_⟩
    by_cases e : i < n
    · rw [List.getElem?_append_left (by omega)] at hi
      exact hx i x hi
    · rw [List.getElem?_append_right (by omega), hl] at hi
      obtain ⟨e1, e2⟩ : i - n = 0 ∧ a = x := by
        cases hh : i - n with
        | zero => rw [hh] at hi; exact ⟨rfl, by simpa using hi⟩
        | succ m => rw [hh] at hi; simp at hi
      obtain rfl : i = n := by omega
      exact e2 ▸ ha
theorem Opn.slice {α : Type} {d : Kd α} {B : α → Nat} {Wf Sz : α → Prop} {e : TypeId} {by_ : Nat} (hT : P.underlying T = some (.slice e)) (hc : P.cellsOf T = 1) (hby : P.bytesOf e = by_) (h : Opn P d e B Wf Sz) :
    Opn P (Kd.slice e d) T (fun xs => sumB B xs + 1) (fun xs => xs.length ≤ maxLen ∧ ∀ x ∈ xs, Wf x) (fun xs => xs.length * by_ ≤ 140737488351232 ∧ ∀ x ∈ xs, Sz x) :=
  ⟨hc, fun {H enc W base spare held fuel cs x} ht => by
    rcases Go.Deep.open_slice hT ht with ⟨rfl, rfl⟩ | ⟨a, len, cap, m, n, D, Pl, rfl, hb, hl, hm, hmm, rfl, hx⟩
    · exact ⟨[], ⟨none, 0, rfl, Nat.le_refl _, rfl, by simp, fun hn => absurd hn (by simp)⟩, by simp [sumB, Rows.uptoBulk], by simp, by simp⟩
    · have hlm : len ≤ m := by rw [hmm]; split <;> omega
      obtain ⟨xs, hxl, hxs⟩ := list_of (α := α) (p := fun i v => ∃ cs', W.cells? base (a.add (i * P.cellsOf e)) (P.cellsOf e) = some cs' ∧ d.K W v cs' ∧ B v ≤ Rows.uptoBulk (D i) ∧ Wf v ∧ (Light P e (D i) → Sz v)) len (fun i hi => by
        obtain ⟨cs', h1, h2⟩ := hx i (by omega)
        obtain ⟨v, hK, hB, hw, hz⟩ := h.open_ h2
        exact ⟨v, cs', h1, hK, hB, hw, hz⟩)
      refine ⟨xs, ⟨some a, cap, by rw [hxl], by omega, rfl, by rw [hxl]; simp only [maxLen] at hm; omega, fun _ => ⟨a, rfl, fun j p hj => ?_⟩⟩, ?_, ⟨by rw [hxl]; omega, fun v hv => ?_⟩, fun hL => ⟨?_, fun v hv => ?_⟩⟩
      · obtain ⟨cs', h1, hK, _, _⟩ := hxs j p hj
        obtain ⟨_, hlen, hcell⟩ := World.cells?_some h1
        rw [h.cells] at hlen hcell
        refine ⟨cs', hlen, hK, fun i u hu => ?_⟩
        have hil : i < cs'.length := (List.getElem?_eq_some_iff.1 hu).1
        have := hcell i (by omega)
        rw [Go.Deep.add_add a (j * d.sz) i] at this
        rw [this]
        exact hu
      · simp only [Rows.uptoBulk]
        have h1 := all_map_le (B := B) (ys := (List.range len).map D) (xs := xs) (by simp [hxl]) (fun i v y hi hy => by
          obtain ⟨_, _, _, hB, _⟩ := hxs i v hi
          have hil : i < len := by have := (List.getElem?_eq_some_iff.1 hi).1; omega
          rw [List.getElem?_map, List.getElem?_range hil] at hy
          simp only [Option.map_some, Option.some.injEq] at hy
          rw [← hy]; exact hB)
        omega
      · obtain ⟨i, hi⟩ := List.getElem?_of_mem hv
        exact (hxs i v hi).choose_spec.2.2.2.1
      · rw [hxl]
        have h1 := hL ((((List.range len).map D).length + ((List.range (m - len)).map fun j => D (len + j)).length) * P.bytesOf e) (by simp [DataW.weights, hT])
        simp only [List.length_map, List.length_range] at h1
        rw [hby] at h1
        exact Nat.le_trans (Nat.mul_le_mul_right _ (by omega)) h1
      · obtain ⟨i, hi⟩ := List.getElem?_of_mem hv
        refine (hxs i v hi).choose_spec.2.2.2.2 (fun k hk => ?_)
        have hil : i < len := by have := (List.getElem?_eq_some_iff.1 hi).1; omega
        refine hL k ?_
        simp only [DataW.weights, hT, List.mem_cons, List.mem_append]
        exact .inr (.inl (weights_mem_all (i := i) (by rw [List.getElem?_map, List.getElem?_range hil]; rfl) k hk))⟩
/-- A slice that is an argument. -/
theorem open_row {α : Type} {d : Kd α} {B : List α → Nat} {Wf Sz : List α → Prop} {e : TypeId} {H : Type} {enc : TypeId × Value → H} {W : World} {b0 : Nat} {base : Nat} {spare : Nat → Bool} {held : Bool} {r : Reach} {v : Value} {x : DataW H} {p : List MemPlace}
    (h : Opn P (Kd.slice e d) T B Wf Sz) (hT : P.underlying T = some (.slice e)) (hv : Value.okWide P W r b0 T v) (ht : DataW.Trod enc P W base spare held T v x p) :
    ∃ A c xs, v = .slice A xs.length c ∧ xs.length ≤ c ∧ d.C W A xs.length xs ∧ B xs ≤ Rows.uptoBulk x ∧ Wf xs ∧ (Light P T x → Sz xs) := by
  obtain ⟨A, n, c, rfl⟩ := WideShapes.okWide_slice hT hv
  obtain ⟨fuel, hf⟩ := ht
  obtain ⟨xs, ⟨A', c', he, hc, hC⟩, hB, hw, hz⟩ := h.open_ hf
  have he' : [Value.slice A n c] = [Value.slice A' xs.length c'] := he
  simp only [List.cons.injEq, Value.slice.injEq, and_true] at he'
  obtain ⟨rfl, rfl, rfl⟩ := he'
  exact ⟨_, _, xs, rfl, hc, hC, hB, hw, hz⟩
/-- A world of one's own making: the input that fits. -/
theorem witness_door {H : Type} {enc : TypeId × Value → H} {C : Checked} {os : Os} {f : FuncId} {fn : Func} {s : OpenSpec} {conds : List PathCond} {apart : Bool} {laid : List (String × DataW Unit)} (modest : Bool) (w0 : World) (args : Array Value) (hos : w0.os = os)
    (hsh : (w0.forCall (fun _ _ => 0) ⟨#[], args, []⟩).Shaped C.prog)
    (hok : Input.okWideB C.prog (w0.forCall (fun _ _ => 0) ⟨#[], args, []⟩) f ⟨#[], args, []⟩ = true)
    (hrow : s.preRow enc C.prog fn conds apart laid (w0.forCall (fun _ _ => 0) ⟨#[], args, []⟩).memory args) :
    ∃ (w : World) (tape : Tape) (i : Input), w.os = os ∧ (w.forCall tape i).Shaped C.prog ∧ i.vars = [] ∧ Input.okWide C.prog (w.forCall tape i) .any w.heap.size f i ∧
      s.preRow enc C.prog fn conds apart laid (w.forCall tape i).memory i.args ∧ ({ modest := modest } : Assume).holds C.prog (lone (Frame.enter C.prog f i.args .normal) [] (w.forCall tape i)) :=
  ⟨w0, fun _ _ => 0, ⟨#[], args, []⟩, hos, hsh, (Input.okWide_of_okWideB (base := 0) hok).1, (Input.okWide_of_okWideB hok).2, hrow, by
    simp only [Assume.holds]
    exact ⟨by simp, by simp, fun _ => Modest.zero, by simp, by simp⟩⟩
end
end Go.Proofs.YtomdidopflebjaaGreatDoor.Opens
end
namespace Go.Proofs.YtomdidopflebjaaGreatDoor.PM
open Go.RowKit Go.Proofs.YtomdidopflebjaaGreatDoorW.PrintWords Go.Proofs.YtomdidopflebjaaGreatDoorW.PrintLast
/-- What is left of OutlineDepths, in plain words. -/
def beadlelaw21_OutlineDepths.Ask : Prop := ∀ (l0 : List Int), ((l0.length ≤ maxLen ∧ ∀ el0 ∈ l0, (Lit.int .i64 el0).wf = true)) → ((Opens.sumB (fun _ => 1) l0 + 1) ≤ 1048576) → ∃ k, beadlelaw21_OutlineDepths.f k l0 = some true
end Go.Proofs.YtomdidopflebjaaGreatDoor.PM
namespace Go.Proofs.YtomdidopflebjaaGreatDoor.Pure
open Go.RowKit Go.Proofs.YtomdidopflebjaaGreatDoor.PM Go.Proofs.YtomdidopflebjaaGreatDoorW.PrintWords Go.Proofs.YtomdidopflebjaaGreatDoorW.PrintLast
theorem speaks_at : beadlelaw21_speaks.f 60 = some true := by kernel_rfl
theorem speaks_ev : ∃ K, ∀ k, K ≤ k → beadlelaw21_speaks.f k = some true := Ev.of beadlelaw21_speaks.mono speaks_at
end Go.Proofs.YtomdidopflebjaaGreatDoor.Pure
namespace Go.Proofs.YtomdidopflebjaaGreatDoor.Pure
open Go.RowKit Go.Proofs.YtomdidopflebjaaGreatDoor.PM Go.Proofs.YtomdidopflebjaaGreatDoorW.PrintWords Go.Proofs.YtomdidopflebjaaGreatDoorW.PrintLast
namespace Secs
theorem w64 {n : Int} (h0 : -9223372036854775808 ≤ n) (h1 : n ≤ 9223372036854775807) : wrap64 n = n := by unfold wrap64; omega
/-- The nearest place ahead of j whose number is below v. -/
def back (l : List Int) (v : Int) : Nat → Option Nat
  | 0 => none
  | j + 1 => if rd l (j : Int) < v then some j else back l v j
theorem back_pos {l : List Int} {v : Int} {j : Nat} (h : rd l (j : Int) < v) : back l v (j + 1) = some j := by unfold back; rw [if_pos h]
theorem back_neg {l : List Int} {v : Int} {j : Nat} (h : ¬ rd l (j : Int) < v) : back l v (j + 1) = back l v j := by
  show (if rd l (j : Int) < v then some j else back l v j) = _
  rw [if_neg h]
/-- From a place on, or from none. -/
def nxt (l : List Int) (v : Int) : Option Nat → Option Nat
  | none => none
  | some q => back l v (q + 1)
/-- The chain of places from one on: each the nearest below. -/
inductive Ch (l : List Int) : Option Nat → List Nat → Prop
  | nil : Ch l none []
  | cons (j : Nat) (S : List Nat) : Ch l (back l (rd l (j : Int)) j) S → Ch l (some j) (j :: S)
theorem back_lt (l : List Int) (v : Int) (q : Nat) : ∀ j, back l v j = some q → q < j
  | 0, h => by simp [back] at h
  | j + 1, h => by
    unfold back at h
    split at h
    · injection h with h; omega
    · have := back_lt l v q j h; omega
theorem back_skip (l : List Int) (v u : Int) (hu : v ≤ u) : ∀ j, back l v j = nxt l v (back l u j)
  | 0 => rfl
  | j + 1 => by
    by_cases h : rd l (j : Int) < u
    · rw [back_pos h]
      rfl
    · rw [back_neg h, back_neg (show ¬ rd l (j : Int) < v by omega)]
      exact back_skip l v u hu j
theorem Ch.lt {l : List Int} {o : Option Nat} {S : List Nat} (h : Ch l o S) (n : Nat) (ho : ∀ j, o = some j → j < n) : (∀ x ∈ S, x < n) ∧ S.length ≤ n := by
  induction h generalizing n with
  | nil => simp
  | cons j S _ ih =>
    have hj := ho j rfl
    obtain ⟨h1, h2⟩ := ih j (fun q hq => back_lt _ _ _ _ hq)
    refine ⟨fun x hx => ?_, by simp; omega⟩
    rcases List.mem_cons.1 hx with rfl | hx
    · exact hj
    · exact Nat.lt_trans (h1 x hx) hj
/-- The chain ahead of place i. -/
def Dp (l : List Int) (i d : Nat) : Prop := ∃ S, Ch l (back l (rd l (i : Int)) i) S ∧ d = S.length
/-- What is left of a chain when those not below v are taken off. -/
def drops (l : List Int) (v : Int) : List Nat → List Nat
  | [] => []
  | t :: S => if v ≤ rd l (t : Int) then drops l v S else t :: S
theorem drops_pos {l : List Int} {v : Int} {t : Nat} {S : List Nat} (h : v ≤ rd l (t : Int)) : drops l v (t :: S) = drops l v S := by
  show (if v ≤ rd l (t : Int) then drops l v S else t :: S) = _
  rw [if_pos h]
theorem drops_neg {l : List Int} {v : Int} {t : Nat} {S : List Nat} (h : ¬ v ≤ rd l (t : Int)) : drops l v (t :: S) = t :: S := by
  show (if v ≤ rd l (t : Int) then drops l v S else t :: S) = _
  rw [if_neg h]
theorem drops_ch {l : List Int} {v : Int} {o : Option Nat} {S : List Nat} (h : Ch l o S) : Ch l (nxt l v o) (drops l v S) := by
  induction h with
  | nil => exact .nil
  | cons j S hS ih =>
    unfold drops
    by_cases hv : v ≤ rd l (j : Int)
    · rw [if_pos hv]
      show Ch l (back l v (j + 1)) _
      rw [back_neg (show ¬ rd l (j : Int) < v by omega), back_skip l v _ hv j]
      exact ih
    · rw [if_neg hv]
      show Ch l (back l v (j + 1)) _
      rw [back_pos (show rd l (j : Int) < v by omega)]
      exact .cons j S hS
/-- The stack behind i numbers, the last one ahead. -/
def stk (l : List Int) : Nat → List Nat
  | 0 => []
  | i + 1 => i :: drops l (rd l (i : Int)) (stk l i)
def dep (l : List Int) (i : Nat) : Nat := (drops l (rd l (i : Int)) (stk l i)).length
theorem stk_ch (l : List Int) : ∀ i, Ch l (match i with | 0 => none | j + 1 => some j) (stk l i)
  | 0 => .nil
  | i + 1 => by
    have h := stk_ch l i
    have h2 := drops_ch (v := rd l (i : Int)) h
    refine .cons i _ ?_
    cases i with
    | zero => exact h2
    | succ i => exact h2
theorem dep_Dp (l : List Int) (i : Nat) : Dp l i (dep l i) := by
  have h2 := drops_ch (v := rd l (i : Int)) (stk_ch l i)
  refine ⟨_, ?_, rfl⟩
  cases i with
  | zero => exact h2
  | succ i => exact h2
def secs (l : List Int) (i : Nat) : List S47 := (List.range i).map fun (j : Nat) => (⟨(j : Int), (dep l j : Int)⟩ : S47)
theorem secs_succ (l : List Int) (i : Nat) : secs l (i + 1) = secs l i ++ [⟨(i : Int), (dep l i : Int)⟩] := by
  unfold secs
  rw [List.range_succ, List.map_append]
  rfl
theorem secs_length (l : List Int) (i : Nat) : (secs l i).length = i := by simp [secs]
theorem secs_rd (l : List Int) (n i : Nat) (hi : i < n) : rd_T47 (secs l n) (i : Int) = ⟨(i : Int), (dep l i : Int)⟩ := by
  unfold rd_T47 secs
  rw [Int.toNat_natCast, List.getD_eq_getElem?_getD, List.getElem?_map, List.getElem?_range hi]
  rfl
def ints (S : List Nat) : List Int := (S.map fun (x : Nat) => (x : Int)).reverse
theorem ints_length (S : List Nat) : (ints S).length = S.length := by simp [ints]
theorem ints_cons (t : Nat) (S : List Nat) : ints (t :: S) = ints S ++ [(t : Int)] := by simp [ints]
theorem pop_ev (l : List Int) (_hl : l.length ≤ 4000) (out : List S47) (i : Nat) (v : Int) (r : List S47) (ho : out.length ≤ 4000) (S : List Nat) : S.length ≤ 4000 → (∀ x ∈ S, x < l.length) →
    Ev (fun k => outline_Sections.l0 k l (out ++ [⟨(i : Int), ((drops l v S).length : Int)⟩]) (ints (drops l v S) ++ [(i : Int)]) l (l.length : Int) (wrap64 ((i : Int) + 1))) r →
    Ev (fun k => outline_Sections.l1 k l out (ints S) (i : Int) v l (l.length : Int) (i : Int)) r := by
  induction S with
  | nil =>
    intro hS hx h
    refine Ev.step (fun k => ?_) h
    simp only [outline_Sections.l1]
    rw [if_neg (by simp [ints]), if_pos (by omega), if_pos (by simp [ints])]
    rfl
  | cons t S ih =>
    intro hS hx h
    have hlen : (ints (t :: S)).length = S.length + 1 := by rw [ints_length]; rfl
    have hS' : S.length + 1 ≤ 4000 := hS
    have hw : wrap64 (((ints (t :: S)).length : Int) - 1) = (S.length : Int) := by rw [hlen, w64 (by omega) (by omega)]; omega
    have hr : rd (ints (t :: S)) (S.length : Int) = (t : Int) := by
      unfold rd
      rw [ints_cons, Int.toNat_natCast, List.getD_eq_getElem?_getD, List.getElem?_append_right (by rw [ints_length]; exact Nat.le_refl _), ints_length, Nat.sub_self]
      rfl
    have ht := hx t (by simp)
    by_cases hv : v ≤ rd l (t : Int)
    · rw [drops_pos hv] at h
      refine Ev.step (fun k => ?_) (ih (by omega) (fun x hx' => hx x (by simp [hx'])) h)
      simp only [outline_Sections.l1]
      rw [hw, hr, if_pos (by omega), if_pos (by omega), if_pos (by omega), if_pos (by omega), if_pos (by omega), if_pos (by omega), if_pos (by omega), ints_cons, Int.toNat_natCast, List.take_left' (ints_length S)]
    · rw [drops_neg hv] at h
      refine Ev.step (fun k => ?_) h
      simp only [outline_Sections.l1]
      rw [hw, hr, if_pos (by omega), if_pos (by omega), if_pos (by omega), if_pos (by omega), if_pos (by omega), if_neg (by omega), if_pos (by omega), if_pos (by omega), hlen]
      rfl
theorem secs_ev (l : List Int) (hl : l.length ≤ 4000) : ∀ (d i : Nat), d + i = l.length → Ev (fun k => outline_Sections.l0 k l (secs l i) (ints (stk l i)) l (l.length : Int) (i : Int)) (secs l l.length) := by
  intro d
  induction d with
  | zero =>
    intro i hi
    refine Ev.step (fun k => ?_) (Ev.now _)
    simp only [outline_Sections.l0]
    rw [if_neg (by omega), show i = l.length by omega]
  | succ d ih =>
    intro i hi
    have hS := (stk_ch l i).lt i (by cases i <;> simp)
    have h := ih (i + 1) (by omega)
    rw [secs_succ] at h
    refine Ev.step (fun k => ?_) (pop_ev l hl (secs l i) i (rd l (i : Int)) _ (by rw [secs_length]; omega) (stk l i) (by omega) (fun x hx => by have := hS.1 x hx; omega) ?_)
    · simp only [outline_Sections.l0]
      rw [if_pos (by omega), if_pos (by omega), if_pos (by omega)]
    · have e : ints (stk l (i + 1)) = ints (drops l (rd l (i : Int)) (stk l i)) ++ [(i : Int)] := ints_cons _ _
      rw [w64 (by omega) (by omega), ← e]
      exact h
theorem sections_ev (l : List Int) (hl : l.length ≤ 4000) : Ev (fun k => outline_Sections.f k l) (secs l l.length) := by
  have h := secs_ev l hl l.length 0 (by omega)
  exact h
theorem depth_scan (l : List Int) (hl : l.length ≤ 4000) (i : Nat) (hi : i < l.length) (r : Int) : ∀ j : Nat, j ≤ i →
    (match back l (rd l (i : Int)) j with | none => Ev (fun _ => some (0 : Int)) r | some q => Ev (fun k => (beadleref21_Depth.f k l (q : Int)).bind fun t => some (wrap64 (1 + t))) r) →
    Ev (fun k => beadleref21_Depth.l0 k l (i : Int) ((j : Int) - 1)) r
  | 0, _, h => by
    refine Ev.step (fun k => ?_) h
    simp only [beadleref21_Depth.l0]
    rw [if_neg (by omega)]
  | j + 1, hj, h => by
    have e1 : (((j + 1 : Nat) : Int) - 1) = (j : Int) := by omega
    rw [e1]
    by_cases hv : rd l (j : Int) < rd l (i : Int)
    · rw [back_pos hv] at h
      refine Ev.step (fun k => ?_) h
      simp only [beadleref21_Depth.l0]
      rw [if_pos (by omega), if_pos (by omega), if_pos (by omega), if_pos (by omega), if_pos (by omega), if_pos hv]
    · rw [back_neg hv] at h
      refine Ev.step (fun k => ?_) (depth_scan l hl i hi r j (by omega) h)
      simp only [beadleref21_Depth.l0]
      rw [if_pos (by omega), if_pos (by omega), if_pos (by omega), if_pos (by omega), if_pos (by omega), if_neg hv, w64 (by omega) (by omega)]
theorem depth_ch (l : List Int) (hl : l.length ≤ 4000) : ∀ (n i : Nat), i < n → i < l.length → ∀ S, Ch l (back l (rd l (i : Int)) i) S → Ev (fun k => beadleref21_Depth.f k l (i : Int)) (S.length : Int) := by
  intro n
  induction n with
  | zero => intro i hi; omega
  | succ n ih =>
    intro i hi hil S hS
    have hw : wrap64 ((i : Int) - 1) = (i : Int) - 1 := w64 (by omega) (by omega)
    have key : Ev (fun k => beadleref21_Depth.l0 k l (i : Int) ((i : Int) - 1)) (S.length : Int) := by
      refine depth_scan l hl i hil _ i (Nat.le_refl _) ?_
      cases e : back l (rd l (i : Int)) i with
      | none =>
        rw [e] at hS
        cases hS
        exact Ev.now _
      | some q =>
        have hq := back_lt _ _ _ _ e
        rw [e] at hS
        cases hS with
        | cons _ S2 h2 =>
          have h3 := ih q (by omega) (by omega) S2 h2
          have hlt := (h2.lt q (fun x hx => back_lt _ _ _ _ hx)).2
          refine Ev.bind (f := fun _ t => some (wrap64 (1 + t))) h3 ?_
          have e2 : wrap64 (1 + (S2.length : Int)) = (((q :: S2).length : Nat) : Int) := by rw [w64 (by omega) (by omega), List.length_cons]; omega
          rw [e2]
          exact Ev.now _
    refine Ev.step (fun k => ?_) key
    simp only [beadleref21_Depth.f]
    rw [hw]
theorem depth_ev (l : List Int) (hl : l.length ≤ 4000) (i : Nat) (hi : i < l.length) : Ev (fun k => beadleref21_Depth.f k l (i : Int)) (dep l i : Int) := by
  obtain ⟨S, h1, h2⟩ := dep_Dp l i
  rw [h2]
  exact depth_ch l hl (i + 1) i (by omega) hi S h1
end Secs
end Go.Proofs.YtomdidopflebjaaGreatDoor.Pure
namespace Go.Proofs.YtomdidopflebjaaGreatDoor.Pure
open Go.RowKit Go.Proofs.YtomdidopflebjaaGreatDoor.PM Go.Proofs.YtomdidopflebjaaGreatDoorW.PrintWords Go.Proofs.YtomdidopflebjaaGreatDoorW.PrintLast
theorem depths_loop (l : List Int) (hl : l.length ≤ 300) : ∀ (d i : Nat), d + i = l.length → ∃ K, ∀ k, K ≤ k → beadlelaw21_OutlineDepths.l0 k l l (Secs.secs l l.length) (i : Int) = some true := by
  intro d
  induction d with
  | zero =>
    intro i hi
    refine ⟨1, fun k hk => ?_⟩
    obtain ⟨k, rfl⟩ : ∃ m, k = m + 1 := ⟨k - 1, by omega⟩
    simp only [beadlelaw21_OutlineDepths.l0]
    rw [if_neg (by omega)]
  | succ d ih =>
    intro i hi
    obtain ⟨K, h⟩ := ih (i + 1) (by omega)
    obtain ⟨D, hD⟩ := Secs.depth_ev l (by omega) i (by omega)
    refine ⟨K + D + 1, fun k hk => ?_⟩
    obtain ⟨k, rfl⟩ : ∃ m, k = m + 1 := ⟨k - 1, by omega⟩
    have hD' : beadleref21_Depth.f k l (i : Int) = some (Secs.dep l i : Int) := hD k (by omega)
    have hw : wrap64 ((i : Int) + 1) = ((i + 1 : Nat) : Int) := by unfold wrap64; omega
    simp only [beadlelaw21_OutlineDepths.l0]
    rw [if_pos (by omega), if_pos (by omega), if_pos (by rw [Secs.secs_length]; omega), Secs.secs_rd l l.length i (by omega), if_pos rfl, hD']
    simp only [Option.bind_some]
    rw [if_pos trivial, if_pos (by omega), if_pos trivial, hw]
    exact h k (by omega)
theorem OutlineDepths : beadlelaw21_OutlineDepths.Ask := by
  intro l0 _ _
  obtain ⟨K1, h1⟩ := speaks_ev
  by_cases hl : (l0.length : Int) > 300
  · refine ⟨K1, ?_⟩
    unfold beadlelaw21_OutlineDepths.f
    rw [h1 K1 (Nat.le_refl _)]
    simp only [Option.bind_some]
    rw [if_pos trivial, if_pos hl]
  · obtain ⟨K2, h2⟩ := Secs.sections_ev l0 (by omega)
    obtain ⟨K3, h3⟩ := depths_loop l0 (by omega) l0.length 0 (by omega)
    have h2' : outline_Sections.f (K1 + K2 + K3) l0 = some (Secs.secs l0 l0.length) := h2 _ (by omega)
    refine ⟨K1 + K2 + K3, ?_⟩
    unfold beadlelaw21_OutlineDepths.f
    rw [h1 _ (by omega)]
    simp only [Option.bind_some, List.nil_append]
    rw [if_pos trivial, if_neg hl, if_pos (by simp; omega), h2']
    simp only [Option.bind_some]
    rw [if_pos (by rw [Secs.secs_length])]
    exact h3 _ (by omega)
end Go.Proofs.YtomdidopflebjaaGreatDoor.Pure
