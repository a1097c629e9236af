/- Merged by a program of this session out of its own texts: PMx1, Glob, PMx10, PMx20, Opens, AskOutlineGrows, Speaks, Secs, PureOutlineGrows. No condition beside those in each statement. -/
import Derived.Test.YtomdidopflebjaaGreatDoorD1
import Derived.Test.YtomdidopflebjaaGreatDoorD2
import Derived.Test.YtomdidopflebjaaGreatDoorD3
import Derived.Test.YtomdidopflebjaaGreatDoorD4
import Derived.Test.YtomdidopflebjaaGreatDoorD5
import Derived.Test.YtomdidopflebjaaGreatDoorD6
import Derived.Test.YtomdidopflebjaaGreatDoorD7
import Derived.Test.YtomdidopflebjaaGreatDoorD8
import Derived.ArgAppend
import Derived.Below
import Derived.BigQuiet
import Derived.Carry
import Derived.ChangeAgain
import Derived.ChangeArms
import Derived.ChangeKeysEq
import Derived.ChangeOld
import Derived.Deep.AppendLies
import Derived.Deep.CutBlock
import Derived.Deep.DeepCutAuto
import Derived.Deep.DeepHandedRow
import Derived.Deep.Draws
import Derived.Deep.LoopGhost
import Derived.Deep.OwnRows
import Derived.Deep.QuietTactic
import Derived.Deep.RegionHeld3
import Derived.Deep.RegionLaw
import Derived.Deep.Slices
import Derived.Ground.Names2Prog
import Derived.JoinedCond
import Derived.KernelRfl
import Derived.LaidHandle
import Derived.LaidLaws
import Derived.LaidMore
import Derived.LaidOnce
import Derived.Laws.BitsLemmas
import Derived.Laws.BytesArg
import Derived.Laws.EntriesVeiled
import Derived.Laws.IdiomCopy
import Derived.Laws.MakeOwn
import Derived.Laws.OwnMore
import Derived.Laws.Rows
import Derived.Laws.Slices
import Derived.Lay
import Derived.Lib.AppendIntMem
import Derived.Lib.AppendStr
import Derived.Lib.Bytealg
import Derived.Lib.ConvBytes
import Derived.Lib.FrozenHead2
import Derived.Lib.Hide
import Derived.Lib.ItoaLen
import Derived.Lib.Join
import Derived.Lib.LaidTab
import Derived.Lib.LaidU8
import Derived.Lib.OthersKept
import Derived.Lib.SliceRun
import Derived.Lib.SlicesCompact
import Derived.MakeChecks
import Derived.Maps.AppendAt
import Derived.OpenShut
import Derived.OrdersHeld
import Derived.Outline
import Derived.OwnWalk
import Derived.ProofKit
import Derived.RegionTactic
import Derived.RowKit
import Derived.RowKit3
import Derived.SevenTiedAt
import Derived.Shelf.Bits.Mul64
import Derived.Shelf.GgSortFunc.RowK
import Derived.Shelf.LaysM
import Derived.Shelf.SlGeneric
import Derived.Shelf.SlSortCmp.InsertionK
import Derived.Shelf.SlSortCmp.NoneTotal
import Derived.Shelf.Slices.Cells
import Derived.Shelf.Slices.Reverse
import Derived.Shelf.Slices.SearchI
import Derived.Shelf.Slices.Turned
import Derived.Shelf.SlicesQ.Load
import Derived.Shelf.SlicesQ.Reverse
import Derived.Shelf.Small.Bits
import Derived.Shelf.Small.Strs
import Derived.Shelf.Small.Utf8
import Derived.Shelf.Small.Wraps
import Derived.Shelf.Strconv.Itoa0
import Derived.Shelf.Strconv.Itoa1
import Derived.Shelf.Strconv.Itoa2
import Derived.Shelf.Strconv.Itoa3
import Derived.Shelf.Strings.Builder1
import Derived.Shelf.Strings.Builder2
import Derived.Shelf.Strings.Builder2Cap
import Derived.Shelf.Strings.BuilderCap
import Derived.Shelf.Strings.BuilderF
import Derived.Shelf.Strings.BuilderK
import Derived.Shelf.Strings.FieldsFuncAny
import Derived.Shelf.Strings.FieldsFuncGrows
import Derived.Shelf.Strings.OnBuilder
import Derived.Shelf.Strings.Prefix
import Derived.Shelf.Strings.Repeat
import Derived.ShutString
import Derived.SizedLaws
import Derived.Sort.WalkB12
import Derived.Stop.Joined
import Derived.Stop.LaidErr
import Derived.Tactics
import Derived.Test.YtomdidopflebjaaGreatDoorRows
import Derived.WalkKit
import Derived.WalkSmall
import Derived.WalkSpells
import Derived.WideLaws
namespace Go.Proofs.YtomdidopflebjaaGreatDoor.PM
open Go.RowKit Go.Proofs.YtomdidopflebjaaGreatDoorW.PrintWords Go.Proofs.YtomdidopflebjaaGreatDoorW.PrintLast Go.Proofs.YtomdidopflebjaaGreatDoorW.PrintMore
attribute [local go_sem] max2_int min2_int max_two min_two max_three min_three max_four min_four   -- for this text's walks alone
set_option linter.unusedVariables false
set_option linter.unusedSimpArgs false
theorem eqA47 (d : Nat) (w : World) (x0 y0 : Int) (x1 y1 : Int) :
    (Op.equalIn (d + 2) 47 (.agg #[.int .i64 x0, .int .i64 x1]) (.agg #[.int .i64 y0, .int .i64 y1])).run Tryz.prog w = .ok (x0 == y0 && (x1 == y1)) w := by
  first | refine eqA_of Tryz.underlying47 (by kernel_rfl) ?_ | (rw [run_equalIn_array (P := Tryz.prog) w (d + 1) _ _ Tryz.underlying47 (show Tryz.prog.info? 3 = some _ from by rfl), show Tryz.prog.cellsOf 3 = 1 from by kernel_rfl]; simp only [show List.range 2 = [0, 1] from rfl, Op.eqItems]; go_simp; by_cases h0 : x0 = y0 <;> by_cases h1 : x1 = y1 <;> simp [h0, h1])
  all_goals (refine eqf_cons (by rfl) (by go_simp; rfl) (by go_simp; rfl) (by go_simp) ?_)
  all_goals (exact eqf_last (by rfl) (by go_simp; rfl) (by go_simp; rfl) (by go_simp))
end Go.Proofs.YtomdidopflebjaaGreatDoor.PM
namespace Go.Proofs.YtomdidopflebjaaGreatDoor.Glob
open Go.RowKit
theorem gw_ofOutlineGrows {W : World} (hL : laidMetH Tryz.prog Rows.outlineGrowsUptoRow.laid W) (hsh : W.ShapedOpen Tryz.prog) : GW W := by
  rw [MakeChecks.laidMetH_plain _ _ _ (by kernel_rfl)] at hL
  exact gw_of hL hsh
end Go.Proofs.YtomdidopflebjaaGreatDoor.Glob
namespace Go.Proofs.YtomdidopflebjaaGreatDoor.PM
open Go.RowKit Go.Proofs.YtomdidopflebjaaGreatDoorW.PrintWords Go.Proofs.YtomdidopflebjaaGreatDoorW.PrintLast Go.Proofs.YtomdidopflebjaaGreatDoorW.PrintMore Go.Proofs.YtomdidopflebjaaGreatDoor.Glob
attribute [local go_sem] max2_int min2_int max_two min_two max_three min_three max_four min_four   -- for this text's walks alone
set_option linter.unusedVariables false
set_option linter.unusedSimpArgs false
attribute [local go_sem high] eqA64
def beadlelaw21_speaks.f (k : Nat)  : Option (Bool) := (beadlelaw21_made.f (([(⟨(⟨#[104, 49]⟩ : ByteArray), (⟨#[97]⟩ : ByteArray), ([] : List (S69)), 0, 0⟩ : S54), (⟨(⟨#[104, 51]⟩ : ByteArray), (⟨#[98]⟩ : ByteArray), ([] : List (S69)), 0, 5⟩ : S54), (⟨(⟨#[104, 50]⟩ : ByteArray), (⟨#[]⟩ : ByteArray), ([] : List (S69)), 0, 0⟩ : S54)] : List (S54)))).bind fun bt221 => ((outline_Check.f k bt221.1).bind fun t227 => ((outline_Show.f k bt221.1).bind fun t230 => (if t230.toList = ([49, 32, 97, 10, 32, 32, 51, 32, 98, 10, 32, 32, 50, 32, 10] : List UInt8) then (if (t227.length : Int) = 1 then (if 0 < (t227.length : Int) then (some (((rd_T64 t227 0).f0) == 55 && (((rd_T64 t227 0).f1) == 5 && ((((rd_T64 t227 0).f2).toList) == ([47, 49] : List UInt8))))) else (none)) else (some false)) else (some false))))
theorem beadlelaw21_speaks.mono : ∀ k, LeO (beadlelaw21_speaks.f k ) (beadlelaw21_speaks.f (k + 1) ) := by
  intro  k
  unfold beadlelaw21_speaks.f
  repeat' first
      | (with_reducible exact outline_Check.mono _ _)
      | (with_reducible exact outline_Show.mono _ _)
      | (with_reducible exact LeO.refl _)
      | (with_reducible exact LeO.none _)
      | (with_reducible refine LeO.ite ?_ ?_)
      | (with_reducible refine LeO.bind ?_ (fun _ => ?_))
      | exact outline_Check.mono _ _
      | exact outline_Show.mono _ _
      | exact LeO.none _
      | refine LeO.ite ?_ ?_
      | refine LeO.bind ?_ (fun _ => ?_)
set_option maxHeartbeats 8000000 in
set_option maxRecDepth 100000 in
theorem beadlelaw21_speaks.calls (k : Nat)  (r : Bool) (w : World) (hG : GW w) (h : beadlelaw21_speaks.f k  = some r) :
    Calls Tryz.prog 7 #[] w fun e w' => e = .returned (.bool r) ∧ Below w.heap.size w w' := by
  have HG := Aside0.mk hG
  clear hG
  have hu54 := Tryz.underlying54
  have hu64 := Tryz.underlying64
  have HB := Aside0.mk (Below.refl w.heap.size w)
  have H : ((beadlelaw21_made.f (([(⟨(⟨#[104, 49]⟩ : ByteArray), (⟨#[97]⟩ : ByteArray), ([] : List (S69)), 0, 0⟩ : S54), (⟨(⟨#[104, 51]⟩ : ByteArray), (⟨#[98]⟩ : ByteArray), ([] : List (S69)), 0, 5⟩ : S54), (⟨(⟨#[104, 50]⟩ : ByteArray), (⟨#[]⟩ : ByteArray), ([] : List (S69)), 0, 0⟩ : S54)] : List (S54)))).bind fun bt221 => ((outline_Check.f k bt221.1).bind fun t227 => ((outline_Show.f k bt221.1).bind fun t230 => (if t230.toList = ([49, 32, 97, 10, 32, 32, 51, 32, 98, 10, 32, 32, 50, 32, 10] : List UInt8) then (if (t227.length : Int) = 1 then (if 0 < (t227.length : Int) then (some (((rd_T64 t227 0).f0) == 55 && (((rd_T64 t227 0).f1) == 5 && ((((rd_T64 t227 0).f2).toList) == ([47, 49] : List UInt8))))) else (none)) else (some false)) else (some false))))) = some r := h
  clear h
  obtain ⟨y218, hy218⟩ : ∃ y_ : List (S54), y_ = (([(⟨(⟨#[104, 49]⟩ : ByteArray), (⟨#[97]⟩ : ByteArray), ([] : List (S69)), 0, 0⟩ : S54), (⟨(⟨#[104, 51]⟩ : ByteArray), (⟨#[98]⟩ : ByteArray), ([] : List (S69)), 0, 5⟩ : S54), (⟨(⟨#[104, 50]⟩ : ByteArray), (⟨#[]⟩ : ByteArray), ([] : List (S69)), 0, 0⟩ : S54)] : List (S54))) := ⟨_, rfl⟩
  replace H : ((beadlelaw21_made.f y218).bind fun bt221 => ((outline_Check.f k bt221.1).bind fun t227 => ((outline_Show.f k bt221.1).bind fun t230 => (if t230.toList = ([49, 32, 97, 10, 32, 32, 51, 32, 98, 10, 32, 32, 50, 32, 10] : List UInt8) then (if (t227.length : Int) = 1 then (if 0 < (t227.length : Int) then (some (((rd_T64 t227 0).f0) == 55 && (((rd_T64 t227 0).f1) == 5 && ((((rd_T64 t227 0).f2).toList) == ([47, 49] : List UInt8))))) else (none)) else (some false)) else (some false))))) = some r := by first | (rw [hy218]; with_reducible exact H) | (have H2_ := (Option.bind_some _ _).symm.trans H; rw [hy218]; with_reducible exact H2_) | (have H2_ := (Option.bind_some _ _).symm.trans H; with_reducible exact H2_) | with_reducible exact H | (rw [hy218]; exact H) | exact H
  have Ny218 := Aside0.mk hy218
  clear hy218
  replace H := Option.bind_eq_some_iff.mp H
  obtain ⟨⟨t221, t222⟩, A10, H⟩ := H
  replace H : ((outline_Check.f k t221).bind fun t227 => ((outline_Show.f k t221).bind fun t230 => (if t230.toList = ([49, 32, 97, 10, 32, 32, 51, 32, 98, 10, 32, 32, 50, 32, 10] : List UInt8) then (if (t227.length : Int) = 1 then (if 0 < (t227.length : Int) then (some (((rd_T64 t227 0).f0) == 55 && (((rd_T64 t227 0).f1) == 5 && ((((rd_T64 t227 0).f2).toList) == ([47, 49] : List UInt8))))) else (none)) else (some false)) else (some false)))) = some r := H
  have A1 := Aside0.mk A10
  clear A10
  replace H := Option.bind_eq_some_iff.mp H
  obtain ⟨t227, A20, H⟩ := H
  replace H : ((outline_Show.f k t221).bind fun t230 => (if t230.toList = ([49, 32, 97, 10, 32, 32, 51, 32, 98, 10, 32, 32, 50, 32, 10] : List UInt8) then (if (t227.length : Int) = 1 then (if 0 < (t227.length : Int) then (some (((rd_T64 t227 0).f0) == 55 && (((rd_T64 t227 0).f1) == 5 && ((((rd_T64 t227 0).f2).toList) == ([47, 49] : List UInt8))))) else (none)) else (some false)) else (some false))) = some r := H
  have A2 := Aside0.mk A20
  clear A20
  replace H := Option.bind_eq_some_iff.mp H
  obtain ⟨t230, A30, H⟩ := H
  replace H : (if t230.toList = ([49, 32, 97, 10, 32, 32, 51, 32, 98, 10, 32, 32, 50, 32, 10] : List UInt8) then (if (t227.length : Int) = 1 then (if 0 < (t227.length : Int) then (some (((rd_T64 t227 0).f0) == 55 && (((rd_T64 t227 0).f1) == 5 && ((((rd_T64 t227 0).f2).toList) == ([47, 49] : List UInt8))))) else (none)) else (some false)) else (some false)) = some r := H
  have A3 := Aside0.mk A30
  clear A30
  by_cases c4 : t230.toList = ([49, 32, 97, 10, 32, 32, 51, 32, 98, 10, 32, 32, 50, 32, 10] : List UInt8)
  · rw [if_pos c4] at H
    have c4b0 : (t230.toList == ([49, 32, 97, 10, 32, 32, 51, 32, 98, 10, 32, 32, 50, 32, 10] : List UInt8)) = true := beq_iff_eq.mpr c4
    have c4b1 : (t230.toList != ([49, 32, 97, 10, 32, 32, 51, 32, 98, 10, 32, 32, 50, 32, 10] : List UInt8)) = false := bne_eq_false_iff_eq.mpr c4
    clear c4
    by_cases c5 : (t227.length : Int) = 1
    · rw [if_pos c5] at H
      have c5b0 : ((t227.length : Int) == 1) = true := beq_iff_eq.mpr c5
      have c5b1 : ((t227.length : Int) != 1) = false := bne_eq_false_iff_eq.mpr c5
      clear c5
      by_cases c6 : 0 < (t227.length : Int)
      · rw [if_pos c6] at H
        have c6b0 : decide (0 < (t227.length : Int)) = true := decide_eq_true c6
        have c6b1 : decide (0 < t227.length) = true := decide_eq_true (by omega)
        clear c6
        obtain rfl := Option.some.inj H
        go_enter Tryz.func7, Tryz.ntmps7
        go_wp2_with (first | ((with_reducible refine gate_dst (N := 8) rfl ?_); (try (refine gate_guard (by rfl) ?_; dsimp only)); refine Kd.S_lit k54 _ 54 ?hg (N := 8) ?hd (xs := ([(⟨(⟨#[104, 49]⟩ : ByteArray), (⟨#[97]⟩ : ByteArray), ([] : List (S69)), 0, 0⟩ : S54), (⟨(⟨#[104, 51]⟩ : ByteArray), (⟨#[98]⟩ : ByteArray), ([] : List (S69)), 0, 5⟩ : S54), (⟨(⟨#[104, 50]⟩ : ByteArray), (⟨#[]⟩ : ByteArray), ([] : List (S69)), 0, 0⟩ : S54)] : List (S54))) (inner := [.string (⟨#[104, 49]⟩ : ByteArray), .string (⟨#[97]⟩ : ByteArray), .slice none 0 0, .int .i64 0, .int .i64 0, .string (⟨#[104, 51]⟩ : ByteArray), .string (⟨#[98]⟩ : ByteArray), .slice none 0 0, .int .i64 0, .int .i64 5, .string (⟨#[104, 50]⟩ : ByteArray), .string (⟨#[]⟩ : ByteArray), .slice none 0 0, .int .i64 0, .int .i64 0]) (ok := fun _ => True) (okp := fun _ => True) ?hr ?hp (fun _ hk => hk) trivial (Below.refl _ _) (Nat.le_refl _) (by simp) ?_; (case hd => rfl); (case hg => rfl); (case hr => first | (go_simp; done) | (go_simp; rfl)); (case hp => exact (Reps.c5 (show Kd.M k54 _ _ _ (⟨(⟨#[104, 49]⟩ : ByteArray), (⟨#[97]⟩ : ByteArray), ([] : List (S69)), 0, 0⟩ : S54) [.string (⟨#[104, 49]⟩ : ByteArray), .string (⟨#[97]⟩ : ByteArray), .slice none 0 0, .int .i64 0, .int .i64 0] from (k54_mkM _ _ _ (⟨(⟨#[104, 49]⟩ : ByteArray), (⟨#[97]⟩ : ByteArray), ([] : List (S69)), 0, 0⟩ : S54) (Kd.R_nil _ _ _ _ _))) (Reps.c5 (show Kd.M k54 _ _ _ (⟨(⟨#[104, 51]⟩ : ByteArray), (⟨#[98]⟩ : ByteArray), ([] : List (S69)), 0, 5⟩ : S54) [.string (⟨#[104, 51]⟩ : ByteArray), .string (⟨#[98]⟩ : ByteArray), .slice none 0 0, .int .i64 0, .int .i64 5] from (k54_mkM _ _ _ (⟨(⟨#[104, 51]⟩ : ByteArray), (⟨#[98]⟩ : ByteArray), ([] : List (S69)), 0, 5⟩ : S54) (Kd.R_nil _ _ _ _ _))) (Reps.c5 (show Kd.M k54 _ _ _ (⟨(⟨#[104, 50]⟩ : ByteArray), (⟨#[]⟩ : ByteArray), ([] : List (S69)), 0, 0⟩ : S54) [.string (⟨#[104, 50]⟩ : ByteArray), .string (⟨#[]⟩ : ByteArray), .slice none 0 0, .int .i64 0, .int .i64 0] from (k54_mkM _ _ _ (⟨(⟨#[104, 50]⟩ : ByteArray), (⟨#[]⟩ : ByteArray), ([] : List (S69)), 0, 0⟩ : S54) (Kd.R_nil _ _ _ _ _))) (Reps.none _ _))))); intro v219 w7 ho8 hb hg_ hnew_; clear hg_ hnew_; (first | rw [← Ny218.out] at ho8 | (simp only [Int.reduceToNat] at ho8; rw [← Ny218.out] at ho8)); have n0_ := Aside0.mk (Kd.S_lower ho8 (below_size (by repeat (first | (with_reducible first | exact HB.out | apply below_alloc | apply pw_below_drewN | apply below_drew1) | exact HB.out)))); have n1_ := Aside0.mk (below_step (by repeat (first | (with_reducible first | exact HB.out | apply below_alloc | apply pw_below_drewN | apply below_drew1) | exact HB.out)) hb); clear HB; have HO220 := n0_; have HB := n1_; clear n0_ n1_; clear hb ho8; obtain ⟨Ao9, co9, eo9⟩ := Kd.S_slice HO220.out; subst eo9) | ((with_reducible refine gate_callee (f := 8) rfl ?_); refine goesL_ (some 9) rfl rfl Tryz.func8 (by kernel_rfl) rfl #[.slice Ao9 y218.length co9] rfl (by (try simp only [List.map_toArray, List.map_cons, List.map_nil]); first | done | rfl | (simp only [List.length_drop, List.length_take]; rfl)) ?_; (with_reducible refine (beadlelaw21_made.calls _ _ y218 t221 t222 _ ?side1 ?side2 A1.out).mono ?_); (case side1 => repeat (first | exact (Kd.S_reads' HO220.out).2.2 | (with_reducible refine Kd.C_alloc ?_ _) | (with_reducible refine Kd.C_drewN ?_ _) | (with_reducible refine Kd.C_drew ?_))); (case side2 => exact (Kd.S_reads' HO220.out).2.1); rintro e w10 ⟨v223, v225, rfl, ho0, ho1, hb⟩; refine ⟨_, rfl, ?_⟩; have n0_ := Aside0.mk (Kd.S_below (by (with_reducible repeat (first | apply Kd.S_alloc | apply Kd.S_drewN | apply Kd.S_drew)); exact HO220.out) hb); have n1_ := Aside0.mk (Kd.R_lower ho0 (below_size (by repeat (first | (with_reducible first | exact HB.out | apply below_alloc | apply pw_below_drewN | apply below_drew1) | exact HB.out)))); have n2_ := Aside0.mk (Kd.R_lower ho1 (below_size (by repeat (first | (with_reducible first | exact HB.out | apply below_alloc | apply pw_below_drewN | apply below_drew1) | exact HB.out)))); have n3_ := Aside0.mk (below_step (by repeat (first | (with_reducible first | exact HB.out | apply below_alloc | apply pw_below_drewN | apply below_drew1) | exact HB.out)) hb); clear HO220; clear HB; have HO220 := n0_; have HO224 := n1_; have HO226 := n2_; have HB := n3_; clear n0_ n1_ n2_ n3_; (try clear hb); (try clear hb2); (try clear hk); (try clear hi); (try clear ho0); (try clear ho1); obtain ⟨Ao11, co11, eo11⟩ := Kd.R_slice HO224.out; subst eo11; obtain ⟨ppo11, hpo11⟩ : ∃ p_, p_ = (if t221.length = 0 then none else Ao11) := ⟨_, rfl⟩; simp only [toPtr_slice, ← hpo11]; have HPo11 := Aside0.mk hpo11; clear hpo11; obtain ⟨Ao12, co12, eo12⟩ := Kd.R_slice HO226.out; subst eo12; obtain ⟨ppo12, hpo12⟩ : ∃ p_, p_ = (if t222.length = 0 then none else Ao12) := ⟨_, rfl⟩; simp only [toPtr_slice, ← hpo12]; have HPo12 := Aside0.mk hpo12; clear hpo12) | ((with_reducible refine gate_callee (f := 14) rfl ?_); refine goesL_ (some 13) rfl rfl Tryz.func14 (by kernel_rfl) rfl #[.pointer ppo11] rfl (by (try simp only [List.map_toArray, List.map_cons, List.map_nil]); first | done | rfl | (simp only [List.length_drop, List.length_take]; rfl)) ?_; (with_reducible refine (outline_Check.calls k _ t221.length t221 t227 _ ?side1 ?side2 (by repeat (first | exact GW.below HG.out HB.out | exact HG.out | (with_reducible refine GW.alloc ?_ _) | (with_reducible refine GW.drewN ?_ _) | (with_reducible refine GW.drew ?_))) A2.out).mono ?_); (case side1 => repeat (first | exact (ptr_C HPo11.out (Kd.R_reads' HO224.out).2.2) | (with_reducible refine Kd.C_alloc ?_ _) | (with_reducible refine Kd.C_drewN ?_ _) | (with_reducible refine Kd.C_drew ?_))); (case side2 => exact ⟨Nat.le_refl _, ptr_nil HPo11.out⟩); rintro e w13 ⟨v228, rfl, ho0, hb⟩; refine ⟨_, rfl, ?_⟩; have n0_ := Aside0.mk (Kd.S_below (by (with_reducible repeat (first | apply Kd.S_alloc | apply Kd.S_drewN | apply Kd.S_drew)); exact HO220.out) hb); have n1_ := Aside0.mk (Kd.R_below (by (with_reducible repeat (first | apply Kd.R_alloc | apply Kd.R_drewN | apply Kd.R_drew)); exact HO224.out) hb); have n2_ := Aside0.mk (Kd.R_below (by (with_reducible repeat (first | apply Kd.R_alloc | apply Kd.R_drewN | apply Kd.R_drew)); exact HO226.out) hb); have n3_ := Aside0.mk (Kd.R_lower ho0 (below_size (by repeat (first | (with_reducible first | exact HB.out | apply below_alloc | apply pw_below_drewN | apply below_drew1) | exact HB.out)))); have n4_ := Aside0.mk (below_step (by repeat (first | (with_reducible first | exact HB.out | apply below_alloc | apply pw_below_drewN | apply below_drew1) | exact HB.out)) hb); clear HO220; clear HO224; clear HO226; clear HB; have HO220 := n0_; have HO224 := n1_; have HO226 := n2_; have HO229 := n3_; have HB := n4_; clear n0_ n1_ n2_ n3_ n4_; (try clear hb); (try clear hb2); (try clear hk); (try clear hi); (try clear ho0)) | ((with_reducible refine gate_callee (f := 11) rfl ?_); refine goesL_ (some 15) rfl rfl Tryz.func11 (by kernel_rfl) rfl #[.pointer ppo11] rfl (by (try simp only [List.map_toArray, List.map_cons, List.map_nil]); first | done | rfl | (simp only [List.length_drop, List.length_take]; rfl)) ?_; (with_reducible refine (outline_Show.calls k _ t221.length t221 t230 _ ?side1 ?side2 (by repeat (first | exact GW.below HG.out HB.out | exact HG.out | (with_reducible refine GW.alloc ?_ _) | (with_reducible refine GW.drewN ?_ _) | (with_reducible refine GW.drew ?_))) A3.out).mono ?_); (case side1 => repeat (first | exact (ptr_C HPo11.out (Kd.R_reads' HO224.out).2.2) | (with_reducible refine Kd.C_alloc ?_ _) | (with_reducible refine Kd.C_drewN ?_ _) | (with_reducible refine Kd.C_drew ?_))); (case side2 => exact ⟨Nat.le_refl _, ptr_nil HPo11.out⟩); rintro e w14 ⟨rfl, hb⟩; refine ⟨_, rfl, ?_⟩; have n0_ := Aside0.mk (Kd.S_below (by (with_reducible repeat (first | apply Kd.S_alloc | apply Kd.S_drewN | apply Kd.S_drew)); exact HO220.out) hb); have n1_ := Aside0.mk (Kd.R_below (by (with_reducible repeat (first | apply Kd.R_alloc | apply Kd.R_drewN | apply Kd.R_drew)); exact HO224.out) hb); have n2_ := Aside0.mk (Kd.R_below (by (with_reducible repeat (first | apply Kd.R_alloc | apply Kd.R_drewN | apply Kd.R_drew)); exact HO226.out) hb); have n3_ := Aside0.mk (Kd.R_below (by (with_reducible repeat (first | apply Kd.R_alloc | apply Kd.R_drewN | apply Kd.R_drew)); exact HO229.out) hb); have n4_ := Aside0.mk (below_step (by repeat (first | (with_reducible first | exact HB.out | apply below_alloc | apply pw_below_drewN | apply below_drew1) | exact HB.out)) hb); clear HO220; clear HO224; clear HO226; clear HO229; clear HB; have HO220 := n0_; have HO224 := n1_; have HO226 := n2_; have HO229 := n3_; have HB := n4_; clear n0_ n1_ n2_ n3_ n4_; (try clear hb); (try clear hb2); (try clear hk); (try clear hi); obtain ⟨Ao15, co15, eo15⟩ := Kd.R_slice HO229.out; subst eo15; have p231 : 0 ≤ (0 : Int) := (by omega); have q231 : 0 < (t227.length : Int) := of_decide_eq_true (by first | (with_reducible assumption) | assumption); obtain ⟨ad231, e231, hx231_0, hx231_1, hx231_2⟩ := at_T64 (Kd.R_reads' HO229.out).2.2 0 p231 q231; cases e231; have qi231 : (0 < t227.length) = True := eq_true (by omega); (try rw [show ((0 : Int)).toNat = 0 from rfl] at hx231_0); (try rw [show 0 * 3 = 0 from rfl] at hx231_0); (try rw [Addr.add_zero'] at hx231_0); (try rw [show ((0 : Int)).toNat = 0 from rfl] at hx231_1); (try rw [show 0 * 3 = 0 from rfl] at hx231_1); (try rw [Addr.add_zero'] at hx231_1); (try rw [show ((0 : Int)).toNat = 0 from rfl] at hx231_2); (try rw [show 0 * 3 = 0 from rfl] at hx231_2); (try rw [Addr.add_zero'] at hx231_2); replace p231 := eq_true p231; replace q231 := eq_true q231))
        go_ret
        exact ⟨by first | rfl | (simp [errW_none, errW_some] <;> rfl) | (simp [*, errW_none, errW_some] <;> rfl), by repeat (first | (with_reducible first | exact HB.out | apply below_alloc | apply pw_below_drewN | apply below_drew1) | exact HB.out)⟩
      · rw [if_neg c6] at H
        exact absurd H (by simp)
    · rw [if_neg c5] at H
      have c5b0 : ((t227.length : Int) == 1) = false := beq_eq_false_iff_ne.mpr c5
      have c5b1 : ((t227.length : Int) != 1) = true := bne_iff_ne.mpr c5
      obtain rfl := Option.some.inj H
      go_enter Tryz.func7, Tryz.ntmps7
      go_wp2_with (first | ((with_reducible refine gate_dst (N := 8) rfl ?_); (try (refine gate_guard (by rfl) ?_; dsimp only)); refine Kd.S_lit k54 _ 54 ?hg (N := 8) ?hd (xs := ([(⟨(⟨#[104, 49]⟩ : ByteArray), (⟨#[97]⟩ : ByteArray), ([] : List (S69)), 0, 0⟩ : S54), (⟨(⟨#[104, 51]⟩ : ByteArray), (⟨#[98]⟩ : ByteArray), ([] : List (S69)), 0, 5⟩ : S54), (⟨(⟨#[104, 50]⟩ : ByteArray), (⟨#[]⟩ : ByteArray), ([] : List (S69)), 0, 0⟩ : S54)] : List (S54))) (inner := [.string (⟨#[104, 49]⟩ : ByteArray), .string (⟨#[97]⟩ : ByteArray), .slice none 0 0, .int .i64 0, .int .i64 0, .string (⟨#[104, 51]⟩ : ByteArray), .string (⟨#[98]⟩ : ByteArray), .slice none 0 0, .int .i64 0, .int .i64 5, .string (⟨#[104, 50]⟩ : ByteArray), .string (⟨#[]⟩ : ByteArray), .slice none 0 0, .int .i64 0, .int .i64 0]) (ok := fun _ => True) (okp := fun _ => True) ?hr ?hp (fun _ hk => hk) trivial (Below.refl _ _) (Nat.le_refl _) (by simp) ?_; (case hd => rfl); (case hg => rfl); (case hr => first | (go_simp; done) | (go_simp; rfl)); (case hp => exact (Reps.c5 (show Kd.M k54 _ _ _ (⟨(⟨#[104, 49]⟩ : ByteArray), (⟨#[97]⟩ : ByteArray), ([] : List (S69)), 0, 0⟩ : S54) [.string (⟨#[104, 49]⟩ : ByteArray), .string (⟨#[97]⟩ : ByteArray), .slice none 0 0, .int .i64 0, .int .i64 0] from (k54_mkM _ _ _ (⟨(⟨#[104, 49]⟩ : ByteArray), (⟨#[97]⟩ : ByteArray), ([] : List (S69)), 0, 0⟩ : S54) (Kd.R_nil _ _ _ _ _))) (Reps.c5 (show Kd.M k54 _ _ _ (⟨(⟨#[104, 51]⟩ : ByteArray), (⟨#[98]⟩ : ByteArray), ([] : List (S69)), 0, 5⟩ : S54) [.string (⟨#[104, 51]⟩ : ByteArray), .string (⟨#[98]⟩ : ByteArray), .slice none 0 0, .int .i64 0, .int .i64 5] from (k54_mkM _ _ _ (⟨(⟨#[104, 51]⟩ : ByteArray), (⟨#[98]⟩ : ByteArray), ([] : List (S69)), 0, 5⟩ : S54) (Kd.R_nil _ _ _ _ _))) (Reps.c5 (show Kd.M k54 _ _ _ (⟨(⟨#[104, 50]⟩ : ByteArray), (⟨#[]⟩ : ByteArray), ([] : List (S69)), 0, 0⟩ : S54) [.string (⟨#[104, 50]⟩ : ByteArray), .string (⟨#[]⟩ : ByteArray), .slice none 0 0, .int .i64 0, .int .i64 0] from (k54_mkM _ _ _ (⟨(⟨#[104, 50]⟩ : ByteArray), (⟨#[]⟩ : ByteArray), ([] : List (S69)), 0, 0⟩ : S54) (Kd.R_nil _ _ _ _ _))) (Reps.none _ _))))); intro v219 w16 ho17 hb hg_ hnew_; clear hg_ hnew_; (first | rw [← Ny218.out] at ho17 | (simp only [Int.reduceToNat] at ho17; rw [← Ny218.out] at ho17)); have n0_ := Aside0.mk (Kd.S_lower ho17 (below_size (by repeat (first | (with_reducible first | exact HB.out | apply below_alloc | apply pw_below_drewN | apply below_drew1) | exact HB.out)))); have n1_ := Aside0.mk (below_step (by repeat (first | (with_reducible first | exact HB.out | apply below_alloc | apply pw_below_drewN | apply below_drew1) | exact HB.out)) hb); clear HB; have HO220 := n0_; have HB := n1_; clear n0_ n1_; clear hb ho17; obtain ⟨Ao18, co18, eo18⟩ := Kd.S_slice HO220.out; subst eo18) | ((with_reducible refine gate_callee (f := 8) rfl ?_); refine goesL_ (some 9) rfl rfl Tryz.func8 (by kernel_rfl) rfl #[.slice Ao18 y218.length co18] rfl (by (try simp only [List.map_toArray, List.map_cons, List.map_nil]); first | done | rfl | (simp only [List.length_drop, List.length_take]; rfl)) ?_; (with_reducible refine (beadlelaw21_made.calls _ _ y218 t221 t222 _ ?side1 ?side2 A1.out).mono ?_); (case side1 => repeat (first | exact (Kd.S_reads' HO220.out).2.2 | (with_reducible refine Kd.C_alloc ?_ _) | (with_reducible refine Kd.C_drewN ?_ _) | (with_reducible refine Kd.C_drew ?_))); (case side2 => exact (Kd.S_reads' HO220.out).2.1); rintro e w19 ⟨v223, v225, rfl, ho0, ho1, hb⟩; refine ⟨_, rfl, ?_⟩; have n0_ := Aside0.mk (Kd.S_below (by (with_reducible repeat (first | apply Kd.S_alloc | apply Kd.S_drewN | apply Kd.S_drew)); exact HO220.out) hb); have n1_ := Aside0.mk (Kd.R_lower ho0 (below_size (by repeat (first | (with_reducible first | exact HB.out | apply below_alloc | apply pw_below_drewN | apply below_drew1) | exact HB.out)))); have n2_ := Aside0.mk (Kd.R_lower ho1 (below_size (by repeat (first | (with_reducible first | exact HB.out | apply below_alloc | apply pw_below_drewN | apply below_drew1) | exact HB.out)))); have n3_ := Aside0.mk (below_step (by repeat (first | (with_reducible first | exact HB.out | apply below_alloc | apply pw_below_drewN | apply below_drew1) | exact HB.out)) hb); clear HO220; clear HB; have HO220 := n0_; have HO224 := n1_; have HO226 := n2_; have HB := n3_; clear n0_ n1_ n2_ n3_; (try clear hb); (try clear hb2); (try clear hk); (try clear hi); (try clear ho0); (try clear ho1); obtain ⟨Ao20, co20, eo20⟩ := Kd.R_slice HO224.out; subst eo20; obtain ⟨ppo20, hpo20⟩ : ∃ p_, p_ = (if t221.length = 0 then none else Ao20) := ⟨_, rfl⟩; simp only [toPtr_slice, ← hpo20]; have HPo20 := Aside0.mk hpo20; clear hpo20; obtain ⟨Ao21, co21, eo21⟩ := Kd.R_slice HO226.out; subst eo21; obtain ⟨ppo21, hpo21⟩ : ∃ p_, p_ = (if t222.length = 0 then none else Ao21) := ⟨_, rfl⟩; simp only [toPtr_slice, ← hpo21]; have HPo21 := Aside0.mk hpo21; clear hpo21) | ((with_reducible refine gate_callee (f := 14) rfl ?_); refine goesL_ (some 13) rfl rfl Tryz.func14 (by kernel_rfl) rfl #[.pointer ppo20] rfl (by (try simp only [List.map_toArray, List.map_cons, List.map_nil]); first | done | rfl | (simp only [List.length_drop, List.length_take]; rfl)) ?_; (with_reducible refine (outline_Check.calls k _ t221.length t221 t227 _ ?side1 ?side2 (by repeat (first | exact GW.below HG.out HB.out | exact HG.out | (with_reducible refine GW.alloc ?_ _) | (with_reducible refine GW.drewN ?_ _) | (with_reducible refine GW.drew ?_))) A2.out).mono ?_); (case side1 => repeat (first | exact (ptr_C HPo20.out (Kd.R_reads' HO224.out).2.2) | (with_reducible refine Kd.C_alloc ?_ _) | (with_reducible refine Kd.C_drewN ?_ _) | (with_reducible refine Kd.C_drew ?_))); (case side2 => exact ⟨Nat.le_refl _, ptr_nil HPo20.out⟩); rintro e w22 ⟨v228, rfl, ho0, hb⟩; refine ⟨_, rfl, ?_⟩; have n0_ := Aside0.mk (Kd.S_below (by (with_reducible repeat (first | apply Kd.S_alloc | apply Kd.S_drewN | apply Kd.S_drew)); exact HO220.out) hb); have n1_ := Aside0.mk (Kd.R_below (by (with_reducible repeat (first | apply Kd.R_alloc | apply Kd.R_drewN | apply Kd.R_drew)); exact HO224.out) hb); have n2_ := Aside0.mk (Kd.R_below (by (with_reducible repeat (first | apply Kd.R_alloc | apply Kd.R_drewN | apply Kd.R_drew)); exact HO226.out) hb); have n3_ := Aside0.mk (Kd.R_lower ho0 (below_size (by repeat (first | (with_reducible first | exact HB.out | apply below_alloc | apply pw_below_drewN | apply below_drew1) | exact HB.out)))); have n4_ := Aside0.mk (below_step (by repeat (first | (with_reducible first | exact HB.out | apply below_alloc | apply pw_below_drewN | apply below_drew1) | exact HB.out)) hb); clear HO220; clear HO224; clear HO226; clear HB; have HO220 := n0_; have HO224 := n1_; have HO226 := n2_; have HO229 := n3_; have HB := n4_; clear n0_ n1_ n2_ n3_ n4_; (try clear hb); (try clear hb2); (try clear hk); (try clear hi); (try clear ho0)) | ((with_reducible refine gate_callee (f := 11) rfl ?_); refine goesL_ (some 15) rfl rfl Tryz.func11 (by kernel_rfl) rfl #[.pointer ppo20] rfl (by (try simp only [List.map_toArray, List.map_cons, List.map_nil]); first | done | rfl | (simp only [List.length_drop, List.length_take]; rfl)) ?_; (with_reducible refine (outline_Show.calls k _ t221.length t221 t230 _ ?side1 ?side2 (by repeat (first | exact GW.below HG.out HB.out | exact HG.out | (with_reducible refine GW.alloc ?_ _) | (with_reducible refine GW.drewN ?_ _) | (with_reducible refine GW.drew ?_))) A3.out).mono ?_); (case side1 => repeat (first | exact (ptr_C HPo20.out (Kd.R_reads' HO224.out).2.2) | (with_reducible refine Kd.C_alloc ?_ _) | (with_reducible refine Kd.C_drewN ?_ _) | (with_reducible refine Kd.C_drew ?_))); (case side2 => exact ⟨Nat.le_refl _, ptr_nil HPo20.out⟩); rintro e w23 ⟨rfl, hb⟩; refine ⟨_, rfl, ?_⟩; have n0_ := Aside0.mk (Kd.S_below (by (with_reducible repeat (first | apply Kd.S_alloc | apply Kd.S_drewN | apply Kd.S_drew)); exact HO220.out) hb); have n1_ := Aside0.mk (Kd.R_below (by (with_reducible repeat (first | apply Kd.R_alloc | apply Kd.R_drewN | apply Kd.R_drew)); exact HO224.out) hb); have n2_ := Aside0.mk (Kd.R_below (by (with_reducible repeat (first | apply Kd.R_alloc | apply Kd.R_drewN | apply Kd.R_drew)); exact HO226.out) hb); have n3_ := Aside0.mk (Kd.R_below (by (with_reducible repeat (first | apply Kd.R_alloc | apply Kd.R_drewN | apply Kd.R_drew)); exact HO229.out) hb); have n4_ := Aside0.mk (below_step (by repeat (first | (with_reducible first | exact HB.out | apply below_alloc | apply pw_below_drewN | apply below_drew1) | exact HB.out)) hb); clear HO220; clear HO224; clear HO226; clear HO229; clear HB; have HO220 := n0_; have HO224 := n1_; have HO226 := n2_; have HO229 := n3_; have HB := n4_; clear n0_ n1_ n2_ n3_ n4_; (try clear hb); (try clear hb2); (try clear hk); (try clear hi); obtain ⟨Ao24, co24, eo24⟩ := Kd.R_slice HO229.out; subst eo24))
      go_ret
      exact ⟨by first | rfl | (simp [errW_none, errW_some] <;> rfl) | (simp [*, errW_none, errW_some] <;> rfl), by repeat (first | (with_reducible first | exact HB.out | apply below_alloc | apply pw_below_drewN | apply below_drew1) | exact HB.out)⟩
  · rw [if_neg c4] at H
    have c4b0 : (t230.toList == ([49, 32, 97, 10, 32, 32, 51, 32, 98, 10, 32, 32, 50, 32, 10] : List UInt8)) = false := beq_eq_false_iff_ne.mpr c4
    have c4b1 : (t230.toList != ([49, 32, 97, 10, 32, 32, 51, 32, 98, 10, 32, 32, 50, 32, 10] : List UInt8)) = true := bne_iff_ne.mpr c4
    obtain rfl := Option.some.inj H
    go_enter Tryz.func7, Tryz.ntmps7
    go_wp2_with (first | ((with_reducible refine gate_dst (N := 8) rfl ?_); (try (refine gate_guard (by rfl) ?_; dsimp only)); refine Kd.S_lit k54 _ 54 ?hg (N := 8) ?hd (xs := ([(⟨(⟨#[104, 49]⟩ : ByteArray), (⟨#[97]⟩ : ByteArray), ([] : List (S69)), 0, 0⟩ : S54), (⟨(⟨#[104, 51]⟩ : ByteArray), (⟨#[98]⟩ : ByteArray), ([] : List (S69)), 0, 5⟩ : S54), (⟨(⟨#[104, 50]⟩ : ByteArray), (⟨#[]⟩ : ByteArray), ([] : List (S69)), 0, 0⟩ : S54)] : List (S54))) (inner := [.string (⟨#[104, 49]⟩ : ByteArray), .string (⟨#[97]⟩ : ByteArray), .slice none 0 0, .int .i64 0, .int .i64 0, .string (⟨#[104, 51]⟩ : ByteArray), .string (⟨#[98]⟩ : ByteArray), .slice none 0 0, .int .i64 0, .int .i64 5, .string (⟨#[104, 50]⟩ : ByteArray), .string (⟨#[]⟩ : ByteArray), .slice none 0 0, .int .i64 0, .int .i64 0]) (ok := fun _ => True) (okp := fun _ => True) ?hr ?hp (fun _ hk => hk) trivial (Below.refl _ _) (Nat.le_refl _) (by simp) ?_; (case hd => rfl); (case hg => rfl); (case hr => first | (go_simp; done) | (go_simp; rfl)); (case hp => exact (Reps.c5 (show Kd.M k54 _ _ _ (⟨(⟨#[104, 49]⟩ : ByteArray), (⟨#[97]⟩ : ByteArray), ([] : List (S69)), 0, 0⟩ : S54) [.string (⟨#[104, 49]⟩ : ByteArray), .string (⟨#[97]⟩ : ByteArray), .slice none 0 0, .int .i64 0, .int .i64 0] from (k54_mkM _ _ _ (⟨(⟨#[104, 49]⟩ : ByteArray), (⟨#[97]⟩ : ByteArray), ([] : List (S69)), 0, 0⟩ : S54) (Kd.R_nil _ _ _ _ _))) (Reps.c5 (show Kd.M k54 _ _ _ (⟨(⟨#[104, 51]⟩ : ByteArray), (⟨#[98]⟩ : ByteArray), ([] : List (S69)), 0, 5⟩ : S54) [.string (⟨#[104, 51]⟩ : ByteArray), .string (⟨#[98]⟩ : ByteArray), .slice none 0 0, .int .i64 0, .int .i64 5] from (k54_mkM _ _ _ (⟨(⟨#[104, 51]⟩ : ByteArray), (⟨#[98]⟩ : ByteArray), ([] : List (S69)), 0, 5⟩ : S54) (Kd.R_nil _ _ _ _ _))) (Reps.c5 (show Kd.M k54 _ _ _ (⟨(⟨#[104, 50]⟩ : ByteArray), (⟨#[]⟩ : ByteArray), ([] : List (S69)), 0, 0⟩ : S54) [.string (⟨#[104, 50]⟩ : ByteArray), .string (⟨#[]⟩ : ByteArray), .slice none 0 0, .int .i64 0, .int .i64 0] from (k54_mkM _ _ _ (⟨(⟨#[104, 50]⟩ : ByteArray), (⟨#[]⟩ : ByteArray), ([] : List (S69)), 0, 0⟩ : S54) (Kd.R_nil _ _ _ _ _))) (Reps.none _ _))))); intro v219 w25 ho26 hb hg_ hnew_; clear hg_ hnew_; (first | rw [← Ny218.out] at ho26 | (simp only [Int.reduceToNat] at ho26; rw [← Ny218.out] at ho26)); have n0_ := Aside0.mk (Kd.S_lower ho26 (below_size (by repeat (first | (with_reducible first | exact HB.out | apply below_alloc | apply pw_below_drewN | apply below_drew1) | exact HB.out)))); have n1_ := Aside0.mk (below_step (by repeat (first | (with_reducible first | exact HB.out | apply below_alloc | apply pw_below_drewN | apply below_drew1) | exact HB.out)) hb); clear HB; have HO220 := n0_; have HB := n1_; clear n0_ n1_; clear hb ho26; obtain ⟨Ao27, co27, eo27⟩ := Kd.S_slice HO220.out; subst eo27) | ((with_reducible refine gate_callee (f := 8) rfl ?_); refine goesL_ (some 9) rfl rfl Tryz.func8 (by kernel_rfl) rfl #[.slice Ao27 y218.length co27] rfl (by (try simp only [List.map_toArray, List.map_cons, List.map_nil]); first | done | rfl | (simp only [List.length_drop, List.length_take]; rfl)) ?_; (with_reducible refine (beadlelaw21_made.calls _ _ y218 t221 t222 _ ?side1 ?side2 A1.out).mono ?_); (case side1 => repeat (first | exact (Kd.S_reads' HO220.out).2.2 | (with_reducible refine Kd.C_alloc ?_ _) | (with_reducible refine Kd.C_drewN ?_ _) | (with_reducible refine Kd.C_drew ?_))); (case side2 => exact (Kd.S_reads' HO220.out).2.1); rintro e w28 ⟨v223, v225, rfl, ho0, ho1, hb⟩; refine ⟨_, rfl, ?_⟩; have n0_ := Aside0.mk (Kd.S_below (by (with_reducible repeat (first | apply Kd.S_alloc | apply Kd.S_drewN | apply Kd.S_drew)); exact HO220.out) hb); have n1_ := Aside0.mk (Kd.R_lower ho0 (below_size (by repeat (first | (with_reducible first | exact HB.out | apply below_alloc | apply pw_below_drewN | apply below_drew1) | exact HB.out)))); have n2_ := Aside0.mk (Kd.R_lower ho1 (below_size (by repeat (first | (with_reducible first | exact HB.out | apply below_alloc | apply pw_below_drewN | apply below_drew1) | exact HB.out)))); have n3_ := Aside0.mk (below_step (by repeat (first | (with_reducible first | exact HB.out | apply below_alloc | apply pw_below_drewN | apply below_drew1) | exact HB.out)) hb); clear HO220; clear HB; have HO220 := n0_; have HO224 := n1_; have HO226 := n2_; have HB := n3_; clear n0_ n1_ n2_ n3_; (try clear hb); (try clear hb2); (try clear hk); (try clear hi); (try clear ho0); (try clear ho1); obtain ⟨Ao29, co29, eo29⟩ := Kd.R_slice HO224.out; subst eo29; obtain ⟨ppo29, hpo29⟩ : ∃ p_, p_ = (if t221.length = 0 then none else Ao29) := ⟨_, rfl⟩; simp only [toPtr_slice, ← hpo29]; have HPo29 := Aside0.mk hpo29; clear hpo29; obtain ⟨Ao30, co30, eo30⟩ := Kd.R_slice HO226.out; subst eo30; obtain ⟨ppo30, hpo30⟩ : ∃ p_, p_ = (if t222.length = 0 then none else Ao30) := ⟨_, rfl⟩; simp only [toPtr_slice, ← hpo30]; have HPo30 := Aside0.mk hpo30; clear hpo30) | ((with_reducible refine gate_callee (f := 14) rfl ?_); refine goesL_ (some 13) rfl rfl Tryz.func14 (by kernel_rfl) rfl #[.pointer ppo29] rfl (by (try simp only [List.map_toArray, List.map_cons, List.map_nil]); first | done | rfl | (simp only [List.length_drop, List.length_take]; rfl)) ?_; (with_reducible refine (outline_Check.calls k _ t221.length t221 t227 _ ?side1 ?side2 (by repeat (first | exact GW.below HG.out HB.out | exact HG.out | (with_reducible refine GW.alloc ?_ _) | (with_reducible refine GW.drewN ?_ _) | (with_reducible refine GW.drew ?_))) A2.out).mono ?_); (case side1 => repeat (first | exact (ptr_C HPo29.out (Kd.R_reads' HO224.out).2.2) | (with_reducible refine Kd.C_alloc ?_ _) | (with_reducible refine Kd.C_drewN ?_ _) | (with_reducible refine Kd.C_drew ?_))); (case side2 => exact ⟨Nat.le_refl _, ptr_nil HPo29.out⟩); rintro e w31 ⟨v228, rfl, ho0, hb⟩; refine ⟨_, rfl, ?_⟩; have n0_ := Aside0.mk (Kd.S_below (by (with_reducible repeat (first | apply Kd.S_alloc | apply Kd.S_drewN | apply Kd.S_drew)); exact HO220.out) hb); have n1_ := Aside0.mk (Kd.R_below (by (with_reducible repeat (first | apply Kd.R_alloc | apply Kd.R_drewN | apply Kd.R_drew)); exact HO224.out) hb); have n2_ := Aside0.mk (Kd.R_below (by (with_reducible repeat (first | apply Kd.R_alloc | apply Kd.R_drewN | apply Kd.R_drew)); exact HO226.out) hb); have n3_ := Aside0.mk (Kd.R_lower ho0 (below_size (by repeat (first | (with_reducible first | exact HB.out | apply below_alloc | apply pw_below_drewN | apply below_drew1) | exact HB.out)))); have n4_ := Aside0.mk (below_step (by repeat (first | (with_reducible first | exact HB.out | apply below_alloc | apply pw_below_drewN | apply below_drew1) | exact HB.out)) hb); clear HO220; clear HO224; clear HO226; clear HB; have HO220 := n0_; have HO224 := n1_; have HO226 := n2_; have HO229 := n3_; have HB := n4_; clear n0_ n1_ n2_ n3_ n4_; (try clear hb); (try clear hb2); (try clear hk); (try clear hi); (try clear ho0)) | ((with_reducible refine gate_callee (f := 11) rfl ?_); refine goesL_ (some 15) rfl rfl Tryz.func11 (by kernel_rfl) rfl #[.pointer ppo29] rfl (by (try simp only [List.map_toArray, List.map_cons, List.map_nil]); first | done | rfl | (simp only [List.length_drop, List.length_take]; rfl)) ?_; (with_reducible refine (outline_Show.calls k _ t221.length t221 t230 _ ?side1 ?side2 (by repeat (first | exact GW.below HG.out HB.out | exact HG.out | (with_reducible refine GW.alloc ?_ _) | (with_reducible refine GW.drewN ?_ _) | (with_reducible refine GW.drew ?_))) A3.out).mono ?_); (case side1 => repeat (first | exact (ptr_C HPo29.out (Kd.R_reads' HO224.out).2.2) | (with_reducible refine Kd.C_alloc ?_ _) | (with_reducible refine Kd.C_drewN ?_ _) | (with_reducible refine Kd.C_drew ?_))); (case side2 => exact ⟨Nat.le_refl _, ptr_nil HPo29.out⟩); rintro e w32 ⟨rfl, hb⟩; refine ⟨_, rfl, ?_⟩; have n0_ := Aside0.mk (Kd.S_below (by (with_reducible repeat (first | apply Kd.S_alloc | apply Kd.S_drewN | apply Kd.S_drew)); exact HO220.out) hb); have n1_ := Aside0.mk (Kd.R_below (by (with_reducible repeat (first | apply Kd.R_alloc | apply Kd.R_drewN | apply Kd.R_drew)); exact HO224.out) hb); have n2_ := Aside0.mk (Kd.R_below (by (with_reducible repeat (first | apply Kd.R_alloc | apply Kd.R_drewN | apply Kd.R_drew)); exact HO226.out) hb); have n3_ := Aside0.mk (Kd.R_below (by (with_reducible repeat (first | apply Kd.R_alloc | apply Kd.R_drewN | apply Kd.R_drew)); exact HO229.out) hb); have n4_ := Aside0.mk (below_step (by repeat (first | (with_reducible first | exact HB.out | apply below_alloc | apply pw_below_drewN | apply below_drew1) | exact HB.out)) hb); clear HO220; clear HO224; clear HO226; clear HO229; clear HB; have HO220 := n0_; have HO224 := n1_; have HO226 := n2_; have HO229 := n3_; have HB := n4_; clear n0_ n1_ n2_ n3_ n4_; (try clear hb); (try clear hb2); (try clear hk); (try clear hi)))
    go_ret
    exact ⟨by first | rfl | (simp [errW_none, errW_some] <;> rfl) | (simp [*, errW_none, errW_some] <;> rfl), by repeat (first | (with_reducible first | exact HB.out | apply below_alloc | apply pw_below_drewN | apply below_drew1) | exact HB.out)⟩
end Go.Proofs.YtomdidopflebjaaGreatDoor.PM
namespace Go.Proofs.YtomdidopflebjaaGreatDoor.PM
open Go.RowKit Go.Proofs.YtomdidopflebjaaGreatDoorW.PrintWords Go.Proofs.YtomdidopflebjaaGreatDoorW.PrintLast Go.Proofs.YtomdidopflebjaaGreatDoorW.PrintMore Go.Proofs.YtomdidopflebjaaGreatDoor.Glob
attribute [local go_sem] max2_int min2_int max_two min_two max_three min_three max_four min_four   -- for this text's walks alone
set_option linter.unusedVariables false
set_option linter.unusedSimpArgs false
attribute [local go_sem high] eqA47
mutual
def beadlelaw21_OutlineGrows.l0 : Nat → List Int → Int → List Int → List Int → Int → Option (Bool)
  | 0, _, _, _, _, _ => none
  | k + 1, x0, x1, x5, x6, x7 => if x7 < (x0.length : Int) then (if 0 ≤ x7 then (if x5.length < 17592186044416 then ((some (x5 ++ [Go.bits .and .i64 (rd x0 x7) 1048575] : List Int)).bind fun y475 => (if x7 < (y475.length : Int) then (if x6.length < 17592186044416 then (beadlelaw21_OutlineGrows.l0 k x0 x1 y475 (x6 ++ [wrap64 ((rd y475 x7) + x1)]) (wrap64 (x7 + 1))) else (none)) else (none))) else (none)) else (none)) else ((outline_Sections.f k x5).bind fun t482 => ((outline_Sections.f k x6).bind fun t485 => (if (t482.length : Int) = (x5.length : Int) then (beadlelaw21_OutlineGrows.j1 k x5 t482 t485 ((t485.length : Int) != (x5.length : Int))) else (beadlelaw21_OutlineGrows.j1 k x5 t482 t485 true))))
def beadlelaw21_OutlineGrows.j1 : Nat → List Int → List (S47) → List (S47) → Bool → Option (Bool)
  | 0, _, _, _, _ => none
  | k + 1, x5, x8, x9, x56 => if x56 = true then (some false) else (beadlelaw21_OutlineGrows.l1 k x5 x8 x9 0)
def beadlelaw21_OutlineGrows.l1 : Nat → List Int → List (S47) → List (S47) → Int → Option (Bool)
  | 0, _, _, _, _ => none
  | k + 1, x5, x8, x9, x10 => if x10 < (x8.length : Int) then (if 0 ≤ x10 then (if x10 < (x9.length : Int) then (if (!(((rd_T47 x8 x10).f0) == ((rd_T47 x9 x10).f0)) || (!(((rd_T47 x8 x10).f1) == ((rd_T47 x9 x10).f1)))) = true then (some false) else (if x10 = 0 then (if ((rd_T47 x8 x10).f1) = 0 then (if x10 > 0 then (if 0 ≤ (wrap64 (x10 - 1)) then (if (wrap64 (x10 - 1)) < (x8.length : Int) then (if ((rd_T47 x8 x10).f1) > (wrap64 (((rd_T47 x8 (wrap64 (x10 - 1))).f1) + 1)) then (some false) else (if x10 < (x5.length : Int) then (if (wrap64 (x10 - 1)) < (x5.length : Int) then (if ((decide (((rd_T47 x8 x10).f1) > ((rd_T47 x8 (wrap64 (x10 - 1))).f1))) != (decide ((rd x5 x10) > (rd x5 (wrap64 (x10 - 1)))))) = true then (some false) else (beadlelaw21_OutlineGrows.l1 k x5 x8 x9 (wrap64 (x10 + 1)))) else (none)) else (none))) else (none)) else (none)) else (beadlelaw21_OutlineGrows.l1 k x5 x8 x9 (wrap64 (x10 + 1)))) else (some false)) else (if x10 > 0 then (if 0 ≤ (wrap64 (x10 - 1)) then (if (wrap64 (x10 - 1)) < (x8.length : Int) then (if ((rd_T47 x8 x10).f1) > (wrap64 (((rd_T47 x8 (wrap64 (x10 - 1))).f1) + 1)) then (some false) else (if x10 < (x5.length : Int) then (if (wrap64 (x10 - 1)) < (x5.length : Int) then (if ((decide (((rd_T47 x8 x10).f1) > ((rd_T47 x8 (wrap64 (x10 - 1))).f1))) != (decide ((rd x5 x10) > (rd x5 (wrap64 (x10 - 1)))))) = true then (some false) else (beadlelaw21_OutlineGrows.l1 k x5 x8 x9 (wrap64 (x10 + 1)))) else (none)) else (none))) else (none)) else (none)) else (beadlelaw21_OutlineGrows.l1 k x5 x8 x9 (wrap64 (x10 + 1)))))) else (none)) else (none)) else (some true)
end
def beadlelaw21_OutlineGrows.f (k : Nat) (l0 : List Int) (a1 : Int) : Option (Bool) := (beadlelaw21_speaks.f k).bind fun t473 => (if t473 = true then (if (l0.length : Int) > 2000 then (some true) else (beadlelaw21_OutlineGrows.l0 k l0 (Go.bits .and .i64 a1 1048575) ([] : List Int) ([] : List Int) 0)) else (some false))
set_option maxHeartbeats 80000000 in
set_option maxRecDepth 100000 in
theorem beadlelaw21_OutlineGrows.calls (k : Nat) (A0 : Option Addr) (c0 : Nat) (l0 : List Int) (a1 : Int) (w : World) (hr0 : Kd.C (Kd.int .i64) w A0 l0.length l0) (hc0 : l0.length ≤ c0) (hG : GW w) (h : beadlelaw21_OutlineGrows.f k l0 a1 = some true) :
    Calls Tryz.prog 5 #[.slice A0 l0.length c0, .int .i64 a1] w fun e w' => e = .returned (.bool true) ∧ Below w.heap.size w w' := by
  have HG := Aside0.mk hG
  clear hG
  have hu47 := Tryz.underlying47
  have HR0 := Aside0.mk hr0
  have HC0 := Aside0.mk hc0
  clear hr0 hc0
  have HB := Aside0.mk (Below.refl w.heap.size w)
  have H : ((beadlelaw21_speaks.f k).bind fun t473 => (if t473 = true then (if (l0.length : Int) > 2000 then (some true) else (beadlelaw21_OutlineGrows.l0 k l0 (Go.bits .and .i64 a1 1048575) ([] : List Int) ([] : List Int) 0)) else (some false))) = some true := h
  clear h
  replace H := Option.bind_eq_some_iff.mp H
  obtain ⟨t473, A30, H⟩ := H
  replace H : (if t473 = true then (if (l0.length : Int) > 2000 then (some true) else (beadlelaw21_OutlineGrows.l0 k l0 (Go.bits .and .i64 a1 1048575) ([] : List Int) ([] : List Int) 0)) else (some false)) = some true := H
  have A3 := Aside0.mk A30
  clear A30
  by_cases c4 : t473 = true
  · subst c4
    have H1 : (if (l0.length : Int) > 2000 then (some true) else (beadlelaw21_OutlineGrows.l0 k l0 (Go.bits .and .i64 a1 1048575) ([] : List Int) ([] : List Int) 0)) = some true := by rw [if_pos rfl] at H; exact H
    clear H
    have H := H1
    clear H1
    by_cases c5 : (l0.length : Int) > 2000
    · rw [if_pos c5] at H
      have c5b0 : decide (2000 < (l0.length : Int)) = true := decide_eq_true c5
      have c5b1 : decide (2000 < l0.length) = true := decide_eq_true (by omega)
      clear c5
      go_enter Tryz.func5, Tryz.ntmps5
      go_wp2_with (first | (go_at_call 7; (with_reducible refine (beadlelaw21_speaks.calls k  true _ (by repeat (first | exact GW.below HG.out HB.out | exact HG.out | (with_reducible refine GW.alloc ?_ _) | (with_reducible refine GW.drewN ?_ _) | (with_reducible refine GW.drew ?_))) A3.out).mono ?_); rintro e w6 ⟨rfl, hb⟩; have n0_ := Aside0.mk (below_step (by repeat (first | (with_reducible first | exact HB.out | apply below_alloc | apply pw_below_drewN | apply below_drew1) | exact HB.out)) hb); clear HB; have HB := n0_; clear n0_; (try clear hb); (try clear hb2); (try clear hk); (try clear hi)))
      repeat (go_quiet (first | (go_at_call 7; (with_reducible refine (beadlelaw21_speaks.calls k  true _ (by repeat (first | exact GW.below HG.out HB.out | exact HG.out | (with_reducible refine GW.alloc ?_ _) | (with_reducible refine GW.drewN ?_ _) | (with_reducible refine GW.drew ?_))) A3.out).mono ?_); rintro e w6 ⟨rfl, hb⟩; have n0_ := Aside0.mk (below_step (by repeat (first | (with_reducible first | exact HB.out | apply below_alloc | apply pw_below_drewN | apply below_drew1) | exact HB.out)) hb); clear HB; have HB := n0_; clear n0_; (try clear hb); (try clear hb2); (try clear hk); (try clear hi))); try go_wp2_with (first | (go_at_call 7; (with_reducible refine (beadlelaw21_speaks.calls k  true _ (by repeat (first | exact GW.below HG.out HB.out | exact HG.out | (with_reducible refine GW.alloc ?_ _) | (with_reducible refine GW.drewN ?_ _) | (with_reducible refine GW.drew ?_))) A3.out).mono ?_); rintro e w6 ⟨rfl, hb⟩; have n0_ := Aside0.mk (below_step (by repeat (first | (with_reducible first | exact HB.out | apply below_alloc | apply pw_below_drewN | apply below_drew1) | exact HB.out)) hb); clear HB; have HB := n0_; clear n0_; (try clear hb); (try clear hb2); (try clear hk); (try clear hi))))
      go_ret
      exact ⟨by first | rfl | (simp [errW_none, errW_some] <;> rfl) | (simp [*, errW_none, errW_some] <;> rfl), by repeat (first | (with_reducible first | exact HB.out | apply below_alloc | apply pw_below_drewN | apply below_drew1) | exact HB.out)⟩
    · rw [if_neg c5] at H
      have c5b0 : decide (2000 < (l0.length : Int)) = false := decide_eq_false c5
      have c5b1 : decide (2000 < l0.length) = false := decide_eq_false (by omega)
      clear c5
      have H' := Aside0.mk H
      clear H
      go_enter Tryz.func5, Tryz.ntmps5
      go_wp2_with (first | (go_at_call 7; (with_reducible refine (beadlelaw21_speaks.calls k  true _ (by repeat (first | exact GW.below HG.out HB.out | exact HG.out | (with_reducible refine GW.alloc ?_ _) | (with_reducible refine GW.drewN ?_ _) | (with_reducible refine GW.drew ?_))) A3.out).mono ?_); rintro e w7 ⟨rfl, hb⟩; have n0_ := Aside0.mk (below_step (by repeat (first | (with_reducible first | exact HB.out | apply below_alloc | apply pw_below_drewN | apply below_drew1) | exact HB.out)) hb); clear HB; have HB := n0_; clear n0_; (try clear hb); (try clear hb2); (try clear hk); (try clear hi)))
      repeat (go_quiet (first | (go_at_call 7; (with_reducible refine (beadlelaw21_speaks.calls k  true _ (by repeat (first | exact GW.below HG.out HB.out | exact HG.out | (with_reducible refine GW.alloc ?_ _) | (with_reducible refine GW.drewN ?_ _) | (with_reducible refine GW.drew ?_))) A3.out).mono ?_); rintro e w7 ⟨rfl, hb⟩; have n0_ := Aside0.mk (below_step (by repeat (first | (with_reducible first | exact HB.out | apply below_alloc | apply pw_below_drewN | apply below_drew1) | exact HB.out)) hb); clear HB; have HB := n0_; clear n0_; (try clear hb); (try clear hb2); (try clear hk); (try clear hi))); try go_wp2_with (first | (go_at_call 7; (with_reducible refine (beadlelaw21_speaks.calls k  true _ (by repeat (first | exact GW.below HG.out HB.out | exact HG.out | (with_reducible refine GW.alloc ?_ _) | (with_reducible refine GW.drewN ?_ _) | (with_reducible refine GW.drew ?_))) A3.out).mono ?_); rintro e w7 ⟨rfl, hb⟩; have n0_ := Aside0.mk (below_step (by repeat (first | (with_reducible first | exact HB.out | apply below_alloc | apply pw_below_drewN | apply below_drew1) | exact HB.out)) hb); clear HB; have HB := n0_; clear n0_; (try clear hb); (try clear hb2); (try clear hk); (try clear hi))))
      go_loopg [5, 6, 7] k (fun kq v5 v6 v7 w' => ∃ (x5_1 : List Int) (x6_1 : List Int) (x7_1 : Int), v7 = .int .i64 x7_1 ∧ Aside0 (beadlelaw21_OutlineGrows.l0 kq l0 (Go.bits .and .i64 a1 1048575) x5_1 x6_1 x7_1 = some true) ∧ Aside0 (kq ≤ k) ∧ Aside0 (Kd.R (Kd.int .i64) 3 w' w.heap.size (fun k_ => some k_ ≠ (v6 : Value).ownBlock) v5 x5_1) ∧ Aside0 (Kd.R (Kd.int .i64) 3 w' w.heap.size (fun k_ => some k_ ≠ (v5 : Value).ownBlock) v6 x6_1) ∧ Aside0 (Below w.heap.size w w'))
      case atStart => exact ⟨(([] : List Int)), (([] : List Int)), (0), (by first | rfl | (simp; done) | (simp [*]; done)), H', ⟨Nat.le_refl _⟩, ⟨by first | exact Kd.R_nil _ _ _ _ _ | exact Kd.N_nil _ _ _ _ _ | exact Kd.V_nil _ _ _ _ _ | exact Kd.Q_nil _ _ _ _ _ | exact Kd.S_nil _ _ _ _ _⟩, ⟨by first | exact Kd.R_nil _ _ _ _ _ | exact Kd.N_nil _ _ _ _ _ | exact Kd.V_nil _ _ _ _ _ | exact Kd.Q_nil _ _ _ _ _ | exact Kd.S_nil _ _ _ _ _⟩, ⟨by repeat (first | (with_reducible first | exact HB.out | apply below_alloc | apply pw_below_drewN | apply below_drew1) | exact HB.out)⟩⟩
      case round =>
        clear H'
        try clear p2
        try clear c4
        try clear c5
        try clear c5b0
        try clear c5b1
        obtain ⟨x5_1, x6_1, x7_1, rfl, HA, HK1, HO_5, HO_6, HB⟩ := hrel
        cases gk with
        | zero => exact absurd HA.out (by simp [beadlelaw21_OutlineGrows.l0])
        | succ k1 =>
          have H := HA.out
          clear HA
          simp only [beadlelaw21_OutlineGrows.l0] at H
          by_cases c8 : x7_1 < (l0.length : Int)
          · rw [if_pos c8] at H
            have c8b0 : decide (x7_1 < (l0.length : Int)) = true := decide_eq_true c8
            clear c8
            by_cases c9 : 0 ≤ x7_1
            · rw [if_pos c9] at H
              have c9b0 : decide (0 ≤ x7_1) = true := decide_eq_true c9
              clear c9
              by_cases c10 : x5_1.length < 17592186044416
              · rw [if_pos c10] at H
                have LMc10 := Aside0.mk c10
                clear c10
                obtain ⟨y475, hy475⟩ : ∃ y_ : List Int, y_ = (x5_1 ++ [Go.bits .and .i64 (rd l0 x7_1) 1048575]) := ⟨_, rfl⟩
                replace H : (if x7_1 < (y475.length : Int) then (if x6_1.length < 17592186044416 then (beadlelaw21_OutlineGrows.l0 k1 l0 (Go.bits .and .i64 a1 1048575) y475 (x6_1 ++ [wrap64 ((rd y475 x7_1) + (Go.bits .and .i64 a1 1048575))]) (wrap64 (x7_1 + 1))) else (none)) else (none)) = some true := by first | (rw [hy475]; with_reducible exact H) | (have H2_ := (Option.bind_some _ _).symm.trans H; rw [hy475]; with_reducible exact H2_) | (have H2_ := (Option.bind_some _ _).symm.trans H; with_reducible exact H2_) | with_reducible exact H | (rw [hy475]; exact H) | exact H
                have Ny475 := Aside0.mk hy475
                clear hy475
                by_cases c11 : x7_1 < (y475.length : Int)
                · rw [if_pos c11] at H
                  have c11b0 : decide (x7_1 < (y475.length : Int)) = true := decide_eq_true c11
                  clear c11
                  by_cases c12 : x6_1.length < 17592186044416
                  · rw [if_pos c12] at H
                    have LMc12 := Aside0.mk c12
                    clear c12
                    obtain ⟨y479, hy479⟩ : ∃ y_ : List Int, y_ = (x6_1 ++ [wrap64 ((rd y475 x7_1) + (Go.bits .and .i64 a1 1048575))]) := ⟨_, rfl⟩
                    replace H : (beadlelaw21_OutlineGrows.l0 k1 l0 (Go.bits .and .i64 a1 1048575) y475 y479 (wrap64 (x7_1 + 1))) = some true := by first | (rw [hy479]; with_reducible exact H) | (have H2_ := (Option.bind_some _ _).symm.trans H; rw [hy479]; with_reducible exact H2_) | (have H2_ := (Option.bind_some _ _).symm.trans H; with_reducible exact H2_) | with_reducible exact H | (rw [hy479]; exact H) | exact H
                    have Ny479 := Aside0.mk hy479
                    clear hy479
                    have H' := Aside0.mk H
                    clear H
                    have p474 : 0 ≤ (x7_1 : Int) := of_decide_eq_true (by first | (with_reducible assumption) | assumption)
                    have q474 : x7_1 < (l0.length : Int) := of_decide_eq_true (by first | (with_reducible assumption) | assumption)
                    obtain ⟨ad474, e474, hx474_0⟩ := Kd.at_int HR0.out x7_1 p474 q474
                    cases e474
                    replace hx474_0 := (HB.out.cell (World.block_lt_of_cell? w _ hx474_0)).trans hx474_0
                    replace p474 := eq_true p474
                    replace q474 := eq_true q474
                    go_wp2_with (first | ((with_reducible refine gate_builtin (b := .append) (xs := #[.tmp 24, .tmp 30]) rfl ?_); (try (refine gate_guard (by rfl) ?_; dsimp only)); at_builtin; refine Kd.R_append (Kd.int .i64) (w0 := w) w.heap.size rfl (.tmp 24) (.tmp 30) 30 3 (.int .i64 0) 8 rfl Tryz.underlying30 info3 rfl (by decide) (by omega) u5 x5_1 (Go.bits .and .i64 (rd l0 x7_1) 1048575) [.int .i64 (Go.bits .and .i64 (rd l0 x7_1) 1048575)] (fun k_ => some k_ ≠ (u6 : Value).ownBlock) (fun _ => False) rfl rfl ?aP (fun _ hk => hk.elim) ?aF ?aO ?aB ?aS ?aL ?_; (case aP => exact rfl); (case aB => exact (by repeat (first | (with_reducible first | exact HB.out | apply below_alloc | apply pw_below_drewN | apply below_drew1) | exact HB.out))); (case aF => exact (fun k_ hk => Kd.fresh' (Kd.R_lt (by (with_reducible repeat (first | apply Kd.R_alloc | apply Kd.R_drewN | apply Kd.R_drew)); exact HO_6.out)) k_ hk)); (case aO => exact (by (with_reducible repeat (first | apply Kd.R_alloc | apply Kd.R_drewN | apply Kd.R_drew)); exact HO_5.out)); (case aS => exact (below_size (by repeat (first | (with_reducible first | exact HB.out | apply below_alloc | apply pw_below_drewN | apply below_drew1) | exact HB.out)))); (case aL => have := LMc10.out; omega); intro v476 w13 ho hb hg hat; rw [← Ny475.out] at ho; have n0_ := Aside0.mk (Kd.R_after (ok := (fun _ => True)) (by (with_reducible repeat (first | apply Kd.R_alloc | apply Kd.R_drewN | apply Kd.R_drew)); exact Kd.R_mono HO_6.out (fun _ hk => ⟨trivial, hk⟩)) hg hat); have n1_ := Aside0.mk (hb); have n2_ := Aside0.mk (ho); clear HO_6; clear HB; clear HO_5; have HO_6 := n0_; have HB := n1_; have HO477 := n2_; clear n0_ n1_ n2_; clear ho hb hg hat; obtain ⟨Ao14, co14, eo14⟩ := Kd.R_slice HO477.out; subst eo14; have p478 : 0 ≤ (x7_1 : Int) := of_decide_eq_true (by first | (with_reducible assumption) | assumption); have q478 : x7_1 < (y475.length : Int) := of_decide_eq_true (by first | (with_reducible assumption) | assumption); obtain ⟨ad478, e478, hx478_0⟩ := Kd.at_int (Kd.R_reads' HO477.out).2.2 x7_1 p478 q478; cases e478; replace p478 := eq_true p478; replace q478 := eq_true q478) | ((with_reducible refine gate_builtin (b := .append) (xs := #[.tmp 32, .tmp 39]) rfl ?_); (try (refine gate_guard (by rfl) ?_; dsimp only)); at_builtin; refine Kd.R_append (Kd.int .i64) (w0 := w) w.heap.size rfl (.tmp 32) (.tmp 39) 30 3 (.int .i64 0) 8 rfl Tryz.underlying30 info3 rfl (by decide) (by omega) u6 x6_1 (wrap64 ((rd y475 x7_1) + (Go.bits .and .i64 a1 1048575))) [.int .i64 (wrap64 ((rd y475 x7_1) + (Go.bits .and .i64 a1 1048575)))] (fun k_ => some k_ ≠ (.slice (some ad478) y475.length co14 : Value).ownBlock) (fun _ => False) rfl rfl ?aP (fun _ hk => hk.elim) ?aF ?aO ?aB ?aS ?aL ?_; (case aP => exact rfl); (case aB => exact (by repeat (first | (with_reducible first | exact HB.out | apply below_alloc | apply pw_below_drewN | apply below_drew1) | exact HB.out))); (case aF => exact (fun k_ hk => Kd.fresh' (Kd.R_lt (by (with_reducible repeat (first | apply Kd.R_alloc | apply Kd.R_drewN | apply Kd.R_drew)); exact HO477.out)) k_ hk)); (case aO => exact (by (with_reducible repeat (first | apply Kd.R_alloc | apply Kd.R_drewN | apply Kd.R_drew)); exact Kd.R_mono HO_6.out (fun _ hk => hk.2))); (case aS => exact (below_size (by repeat (first | (with_reducible first | exact HB.out | apply below_alloc | apply pw_below_drewN | apply below_drew1) | exact HB.out)))); (case aL => have := LMc12.out; omega); intro v480 w15 ho hb hg hat; rw [← Ny479.out] at ho; have n0_ := Aside0.mk (Kd.R_after (ok := (fun _ => True)) (by (with_reducible repeat (first | apply Kd.R_alloc | apply Kd.R_drewN | apply Kd.R_drew)); exact Kd.R_mono HO477.out (fun _ hk => ⟨trivial, hk⟩)) hg hat); have n1_ := Aside0.mk (hb); have n2_ := Aside0.mk (ho); clear HO477; clear HB; clear HO_6; have HO477 := n0_; have HB := n1_; have HO481 := n2_; clear n0_ n1_ n2_; clear ho hb hg hat))
                    repeat (go_quiet (first | ((with_reducible refine gate_builtin (b := .append) (xs := #[.tmp 24, .tmp 30]) rfl ?_); (try (refine gate_guard (by rfl) ?_; dsimp only)); at_builtin; refine Kd.R_append (Kd.int .i64) (w0 := w) w.heap.size rfl (.tmp 24) (.tmp 30) 30 3 (.int .i64 0) 8 rfl Tryz.underlying30 info3 rfl (by decide) (by omega) u5 x5_1 (Go.bits .and .i64 (rd l0 x7_1) 1048575) [.int .i64 (Go.bits .and .i64 (rd l0 x7_1) 1048575)] (fun k_ => some k_ ≠ (u6 : Value).ownBlock) (fun _ => False) rfl rfl ?aP (fun _ hk => hk.elim) ?aF ?aO ?aB ?aS ?aL ?_; (case aP => exact rfl); (case aB => exact (by repeat (first | (with_reducible first | exact HB.out | apply below_alloc | apply pw_below_drewN | apply below_drew1) | exact HB.out))); (case aF => exact (fun k_ hk => Kd.fresh' (Kd.R_lt (by (with_reducible repeat (first | apply Kd.R_alloc | apply Kd.R_drewN | apply Kd.R_drew)); exact HO_6.out)) k_ hk)); (case aO => exact (by (with_reducible repeat (first | apply Kd.R_alloc | apply Kd.R_drewN | apply Kd.R_drew)); exact HO_5.out)); (case aS => exact (below_size (by repeat (first | (with_reducible first | exact HB.out | apply below_alloc | apply pw_below_drewN | apply below_drew1) | exact HB.out)))); (case aL => have := LMc10.out; omega); intro v476 w13 ho hb hg hat; rw [← Ny475.out] at ho; have n0_ := Aside0.mk (Kd.R_after (ok := (fun _ => True)) (by (with_reducible repeat (first | apply Kd.R_alloc | apply Kd.R_drewN | apply Kd.R_drew)); exact Kd.R_mono HO_6.out (fun _ hk => ⟨trivial, hk⟩)) hg hat); have n1_ := Aside0.mk (hb); have n2_ := Aside0.mk (ho); clear HO_6; clear HB; clear HO_5; have HO_6 := n0_; have HB := n1_; have HO477 := n2_; clear n0_ n1_ n2_; clear ho hb hg hat; obtain ⟨Ao14, co14, eo14⟩ := Kd.R_slice HO477.out; subst eo14; have p478 : 0 ≤ (x7_1 : Int) := of_decide_eq_true (by first | (with_reducible assumption) | assumption); have q478 : x7_1 < (y475.length : Int) := of_decide_eq_true (by first | (with_reducible assumption) | assumption); obtain ⟨ad478, e478, hx478_0⟩ := Kd.at_int (Kd.R_reads' HO477.out).2.2 x7_1 p478 q478; cases e478; replace p478 := eq_true p478; replace q478 := eq_true q478) | ((with_reducible refine gate_builtin (b := .append) (xs := #[.tmp 32, .tmp 39]) rfl ?_); (try (refine gate_guard (by rfl) ?_; dsimp only)); at_builtin; refine Kd.R_append (Kd.int .i64) (w0 := w) w.heap.size rfl (.tmp 32) (.tmp 39) 30 3 (.int .i64 0) 8 rfl Tryz.underlying30 info3 rfl (by decide) (by omega) u6 x6_1 (wrap64 ((rd y475 x7_1) + (Go.bits .and .i64 a1 1048575))) [.int .i64 (wrap64 ((rd y475 x7_1) + (Go.bits .and .i64 a1 1048575)))] (fun k_ => some k_ ≠ (.slice (some ad478) y475.length co14 : Value).ownBlock) (fun _ => False) rfl rfl ?aP (fun _ hk => hk.elim) ?aF ?aO ?aB ?aS ?aL ?_; (case aP => exact rfl); (case aB => exact (by repeat (first | (with_reducible first | exact HB.out | apply below_alloc | apply pw_below_drewN | apply below_drew1) | exact HB.out))); (case aF => exact (fun k_ hk => Kd.fresh' (Kd.R_lt (by (with_reducible repeat (first | apply Kd.R_alloc | apply Kd.R_drewN | apply Kd.R_drew)); exact HO477.out)) k_ hk)); (case aO => exact (by (with_reducible repeat (first | apply Kd.R_alloc | apply Kd.R_drewN | apply Kd.R_drew)); exact Kd.R_mono HO_6.out (fun _ hk => hk.2))); (case aS => exact (below_size (by repeat (first | (with_reducible first | exact HB.out | apply below_alloc | apply pw_below_drewN | apply below_drew1) | exact HB.out)))); (case aL => have := LMc12.out; omega); intro v480 w15 ho hb hg hat; rw [← Ny479.out] at ho; have n0_ := Aside0.mk (Kd.R_after (ok := (fun _ => True)) (by (with_reducible repeat (first | apply Kd.R_alloc | apply Kd.R_drewN | apply Kd.R_drew)); exact Kd.R_mono HO477.out (fun _ hk => ⟨trivial, hk⟩)) hg hat); have n1_ := Aside0.mk (hb); have n2_ := Aside0.mk (ho); clear HO477; clear HB; clear HO_6; have HO477 := n0_; have HB := n1_; have HO481 := n2_; clear n0_ n1_ n2_; clear ho hb hg hat)); try go_wp2_with (first | ((with_reducible refine gate_builtin (b := .append) (xs := #[.tmp 24, .tmp 30]) rfl ?_); (try (refine gate_guard (by rfl) ?_; dsimp only)); at_builtin; refine Kd.R_append (Kd.int .i64) (w0 := w) w.heap.size rfl (.tmp 24) (.tmp 30) 30 3 (.int .i64 0) 8 rfl Tryz.underlying30 info3 rfl (by decide) (by omega) u5 x5_1 (Go.bits .and .i64 (rd l0 x7_1) 1048575) [.int .i64 (Go.bits .and .i64 (rd l0 x7_1) 1048575)] (fun k_ => some k_ ≠ (u6 : Value).ownBlock) (fun _ => False) rfl rfl ?aP (fun _ hk => hk.elim) ?aF ?aO ?aB ?aS ?aL ?_; (case aP => exact rfl); (case aB => exact (by repeat (first | (with_reducible first | exact HB.out | apply below_alloc | apply pw_below_drewN | apply below_drew1) | exact HB.out))); (case aF => exact (fun k_ hk => Kd.fresh' (Kd.R_lt (by (with_reducible repeat (first | apply Kd.R_alloc | apply Kd.R_drewN | apply Kd.R_drew)); exact HO_6.out)) k_ hk)); (case aO => exact (by (with_reducible repeat (first | apply Kd.R_alloc | apply Kd.R_drewN | apply Kd.R_drew)); exact HO_5.out)); (case aS => exact (below_size (by repeat (first | (with_reducible first | exact HB.out | apply below_alloc | apply pw_below_drewN | apply below_drew1) | exact HB.out)))); (case aL => have := LMc10.out; omega); intro v476 w13 ho hb hg hat; rw [← Ny475.out] at ho; have n0_ := Aside0.mk (Kd.R_after (ok := (fun _ => True)) (by (with_reducible repeat (first | apply Kd.R_alloc | apply Kd.R_drewN | apply Kd.R_drew)); exact Kd.R_mono HO_6.out (fun _ hk => ⟨trivial, hk⟩)) hg hat); have n1_ := Aside0.mk (hb); have n2_ := Aside0.mk (ho); clear HO_6; clear HB; clear HO_5; have HO_6 := n0_; have HB := n1_; have HO477 := n2_; clear n0_ n1_ n2_; clear ho hb hg hat; obtain ⟨Ao14, co14, eo14⟩ := Kd.R_slice HO477.out; subst eo14; have p478 : 0 ≤ (x7_1 : Int) := of_decide_eq_true (by first | (with_reducible assumption) | assumption); have q478 : x7_1 < (y475.length : Int) := of_decide_eq_true (by first | (with_reducible assumption) | assumption); obtain ⟨ad478, e478, hx478_0⟩ := Kd.at_int (Kd.R_reads' HO477.out).2.2 x7_1 p478 q478; cases e478; replace p478 := eq_true p478; replace q478 := eq_true q478) | ((with_reducible refine gate_builtin (b := .append) (xs := #[.tmp 32, .tmp 39]) rfl ?_); (try (refine gate_guard (by rfl) ?_; dsimp only)); at_builtin; refine Kd.R_append (Kd.int .i64) (w0 := w) w.heap.size rfl (.tmp 32) (.tmp 39) 30 3 (.int .i64 0) 8 rfl Tryz.underlying30 info3 rfl (by decide) (by omega) u6 x6_1 (wrap64 ((rd y475 x7_1) + (Go.bits .and .i64 a1 1048575))) [.int .i64 (wrap64 ((rd y475 x7_1) + (Go.bits .and .i64 a1 1048575)))] (fun k_ => some k_ ≠ (.slice (some ad478) y475.length co14 : Value).ownBlock) (fun _ => False) rfl rfl ?aP (fun _ hk => hk.elim) ?aF ?aO ?aB ?aS ?aL ?_; (case aP => exact rfl); (case aB => exact (by repeat (first | (with_reducible first | exact HB.out | apply below_alloc | apply pw_below_drewN | apply below_drew1) | exact HB.out))); (case aF => exact (fun k_ hk => Kd.fresh' (Kd.R_lt (by (with_reducible repeat (first | apply Kd.R_alloc | apply Kd.R_drewN | apply Kd.R_drew)); exact HO477.out)) k_ hk)); (case aO => exact (by (with_reducible repeat (first | apply Kd.R_alloc | apply Kd.R_drewN | apply Kd.R_drew)); exact Kd.R_mono HO_6.out (fun _ hk => hk.2))); (case aS => exact (below_size (by repeat (first | (with_reducible first | exact HB.out | apply below_alloc | apply pw_below_drewN | apply below_drew1) | exact HB.out)))); (case aL => have := LMc12.out; omega); intro v480 w15 ho hb hg hat; rw [← Ny479.out] at ho; have n0_ := Aside0.mk (Kd.R_after (ok := (fun _ => True)) (by (with_reducible repeat (first | apply Kd.R_alloc | apply Kd.R_drewN | apply Kd.R_drew)); exact Kd.R_mono HO477.out (fun _ hk => ⟨trivial, hk⟩)) hg hat); have n1_ := Aside0.mk (hb); have n2_ := Aside0.mk (ho); clear HO477; clear HB; clear HO_6; have HO477 := n0_; have HB := n1_; have HO481 := n2_; clear n0_ n1_ n2_; clear ho hb hg hat)))
                    go_roundg k1
                    case measure => have := HK1.out; omega
                    case rel => exact ⟨(y475), (y479), (wrap64 (x7_1 + 1)), (by first | rfl | (simp; done) | (simp [*]; done)), H', ⟨by have := HK1.out; omega⟩, ⟨by (with_reducible repeat (first | apply Kd.R_alloc | apply Kd.R_drewN | apply Kd.R_drew)); exact Kd.R_mono HO477.out (fun _ hk => hk.2)⟩, ⟨by (with_reducible repeat (first | apply Kd.R_alloc | apply Kd.R_drewN | apply Kd.R_drew)); exact HO481.out⟩, ⟨by repeat (first | (with_reducible first | exact HB.out | apply below_alloc | apply pw_below_drewN | apply below_drew1) | exact HB.out)⟩⟩
                  · rw [if_neg c12] at H
                    exact absurd H (by simp)
                · rw [if_neg c11] at H
                  exact absurd H (by simp)
              · rw [if_neg c10] at H
                exact absurd H (by simp)
            · rw [if_neg c9] at H
              exact absurd H (by simp)
          · rw [if_neg c8] at H
            have c8b0 : decide (x7_1 < (l0.length : Int)) = false := decide_eq_false c8
            clear c8
            replace H := Option.bind_eq_some_iff.mp H
            obtain ⟨t482, A160, H⟩ := H
            replace H : ((outline_Sections.f k1 x6_1).bind fun t485 => (if (t482.length : Int) = (x5_1.length : Int) then (beadlelaw21_OutlineGrows.j1 k1 x5_1 t482 t485 ((t485.length : Int) != (x5_1.length : Int))) else (beadlelaw21_OutlineGrows.j1 k1 x5_1 t482 t485 true))) = some true := H
            have A16 := Aside0.mk A160
            clear A160
            replace H := Option.bind_eq_some_iff.mp H
            obtain ⟨t485, A170, H⟩ := H
            replace H : (if (t482.length : Int) = (x5_1.length : Int) then (beadlelaw21_OutlineGrows.j1 k1 x5_1 t482 t485 ((t485.length : Int) != (x5_1.length : Int))) else (beadlelaw21_OutlineGrows.j1 k1 x5_1 t482 t485 true)) = some true := H
            have A17 := Aside0.mk A170
            clear A170
            have HC18 := Aside0.mk H
            clear H
            obtain ⟨Ao19, co19, eo19⟩ := Kd.R_slice HO_5.out
            subst eo19
            go_upto_region 13 with (first | (go_at_call 18; (with_reducible refine (outline_Sections.calls k1 _ _ x5_1 t482 _ ?side1 ?side2 A16.out).mono ?_); (case side1 => repeat (first | exact (Kd.R_reads' HO_5.out).2.2 | (with_reducible refine Kd.C_alloc ?_ _) | (with_reducible refine Kd.C_drewN ?_ _) | (with_reducible refine Kd.C_drew ?_))); (case side2 => exact (Kd.R_reads' HO_5.out).2.1); rintro e w20 ⟨v483, rfl, ho0, hb⟩; have n0_ := Aside0.mk (Kd.R_below (by (with_reducible repeat (first | apply Kd.R_alloc | apply Kd.R_drewN | apply Kd.R_drew)); exact HO_5.out) hb); have n1_ := Aside0.mk (Kd.R_below (by (with_reducible repeat (first | apply Kd.R_alloc | apply Kd.R_drewN | apply Kd.R_drew)); exact HO_6.out) hb); have n2_ := Aside0.mk (Kd.R_lower ho0 (below_size (by repeat (first | (with_reducible first | exact HB.out | apply below_alloc | apply pw_below_drewN | apply below_drew1) | exact HB.out)))); have n3_ := Aside0.mk (below_step (by repeat (first | (with_reducible first | exact HB.out | apply below_alloc | apply pw_below_drewN | apply below_drew1) | exact HB.out)) hb); clear HO_5; clear HO_6; clear HB; have HO_5 := n0_; have HO_6 := n1_; have HO484 := n2_; have HB := n3_; clear n0_ n1_ n2_ n3_; (try clear hb); (try clear hb2); (try clear hk); (try clear hi); (try clear ho0); obtain ⟨Ao21, co21, eo21⟩ := Kd.R_slice HO_6.out; subst eo21) | (go_at_call 18; (with_reducible refine (outline_Sections.calls k1 _ _ x6_1 t485 _ ?side1 ?side2 A17.out).mono ?_); (case side1 => repeat (first | exact (Kd.R_reads' HO_6.out).2.2 | (with_reducible refine Kd.C_alloc ?_ _) | (with_reducible refine Kd.C_drewN ?_ _) | (with_reducible refine Kd.C_drew ?_))); (case side2 => exact (Kd.R_reads' HO_6.out).2.1); rintro e w22 ⟨v486, rfl, ho0, hb⟩; have n0_ := Aside0.mk (Kd.R_below (by (with_reducible repeat (first | apply Kd.R_alloc | apply Kd.R_drewN | apply Kd.R_drew)); exact HO_5.out) hb); have n1_ := Aside0.mk (Kd.R_below (by (with_reducible repeat (first | apply Kd.R_alloc | apply Kd.R_drewN | apply Kd.R_drew)); exact HO_6.out) hb); have n2_ := Aside0.mk (Kd.R_elder' (by (with_reducible repeat (first | apply Kd.R_alloc | apply Kd.R_drewN | apply Kd.R_drew)); exact HO484.out) (Kd.R_base ho0) hb); have n3_ := Aside0.mk (Kd.R_lower (Kd.R_new' ho0 (Kd.R_lt (by (with_reducible repeat (first | apply Kd.R_alloc | apply Kd.R_drewN | apply Kd.R_drew)); exact HO484.out))) (below_size (by repeat (first | (with_reducible first | exact HB.out | apply below_alloc | apply pw_below_drewN | apply below_drew1) | exact HB.out)))); have n4_ := Aside0.mk (below_step (by repeat (first | (with_reducible first | exact HB.out | apply below_alloc | apply pw_below_drewN | apply below_drew1) | exact HB.out)) hb); clear HO_5; clear HO_6; clear HO484; clear HB; have HO_5 := n0_; have HO_6 := n1_; have HO484 := n2_; have HO487 := n3_; have HB := n4_; clear n0_ n1_ n2_ n3_ n4_; (try clear hb); (try clear hb2); (try clear hk); (try clear hi); (try clear ho0)))
            repeat (go_quiet (first | (go_at_call 18; (with_reducible refine (outline_Sections.calls k1 _ _ x5_1 t482 _ ?side1 ?side2 A16.out).mono ?_); (case side1 => repeat (first | exact (Kd.R_reads' HO_5.out).2.2 | (with_reducible refine Kd.C_alloc ?_ _) | (with_reducible refine Kd.C_drewN ?_ _) | (with_reducible refine Kd.C_drew ?_))); (case side2 => exact (Kd.R_reads' HO_5.out).2.1); rintro e w20 ⟨v483, rfl, ho0, hb⟩; have n0_ := Aside0.mk (Kd.R_below (by (with_reducible repeat (first | apply Kd.R_alloc | apply Kd.R_drewN | apply Kd.R_drew)); exact HO_5.out) hb); have n1_ := Aside0.mk (Kd.R_below (by (with_reducible repeat (first | apply Kd.R_alloc | apply Kd.R_drewN | apply Kd.R_drew)); exact HO_6.out) hb); have n2_ := Aside0.mk (Kd.R_lower ho0 (below_size (by repeat (first | (with_reducible first | exact HB.out | apply below_alloc | apply pw_below_drewN | apply below_drew1) | exact HB.out)))); have n3_ := Aside0.mk (below_step (by repeat (first | (with_reducible first | exact HB.out | apply below_alloc | apply pw_below_drewN | apply below_drew1) | exact HB.out)) hb); clear HO_5; clear HO_6; clear HB; have HO_5 := n0_; have HO_6 := n1_; have HO484 := n2_; have HB := n3_; clear n0_ n1_ n2_ n3_; (try clear hb); (try clear hb2); (try clear hk); (try clear hi); (try clear ho0); obtain ⟨Ao21, co21, eo21⟩ := Kd.R_slice HO_6.out; subst eo21) | (go_at_call 18; (with_reducible refine (outline_Sections.calls k1 _ _ x6_1 t485 _ ?side1 ?side2 A17.out).mono ?_); (case side1 => repeat (first | exact (Kd.R_reads' HO_6.out).2.2 | (with_reducible refine Kd.C_alloc ?_ _) | (with_reducible refine Kd.C_drewN ?_ _) | (with_reducible refine Kd.C_drew ?_))); (case side2 => exact (Kd.R_reads' HO_6.out).2.1); rintro e w22 ⟨v486, rfl, ho0, hb⟩; have n0_ := Aside0.mk (Kd.R_below (by (with_reducible repeat (first | apply Kd.R_alloc | apply Kd.R_drewN | apply Kd.R_drew)); exact HO_5.out) hb); have n1_ := Aside0.mk (Kd.R_below (by (with_reducible repeat (first | apply Kd.R_alloc | apply Kd.R_drewN | apply Kd.R_drew)); exact HO_6.out) hb); have n2_ := Aside0.mk (Kd.R_elder' (by (with_reducible repeat (first | apply Kd.R_alloc | apply Kd.R_drewN | apply Kd.R_drew)); exact HO484.out) (Kd.R_base ho0) hb); have n3_ := Aside0.mk (Kd.R_lower (Kd.R_new' ho0 (Kd.R_lt (by (with_reducible repeat (first | apply Kd.R_alloc | apply Kd.R_drewN | apply Kd.R_drew)); exact HO484.out))) (below_size (by repeat (first | (with_reducible first | exact HB.out | apply below_alloc | apply pw_below_drewN | apply below_drew1) | exact HB.out)))); have n4_ := Aside0.mk (below_step (by repeat (first | (with_reducible first | exact HB.out | apply below_alloc | apply pw_below_drewN | apply below_drew1) | exact HB.out)) hb); clear HO_5; clear HO_6; clear HO484; clear HB; have HO_5 := n0_; have HO_6 := n1_; have HO484 := n2_; have HO487 := n3_; have HB := n4_; clear n0_ n1_ n2_ n3_ n4_; (try clear hb); (try clear hb2); (try clear hk); (try clear hi); (try clear ho0))); go_upto_region 13 with (first | (go_at_call 18; (with_reducible refine (outline_Sections.calls k1 _ _ x5_1 t482 _ ?side1 ?side2 A16.out).mono ?_); (case side1 => repeat (first | exact (Kd.R_reads' HO_5.out).2.2 | (with_reducible refine Kd.C_alloc ?_ _) | (with_reducible refine Kd.C_drewN ?_ _) | (with_reducible refine Kd.C_drew ?_))); (case side2 => exact (Kd.R_reads' HO_5.out).2.1); rintro e w20 ⟨v483, rfl, ho0, hb⟩; have n0_ := Aside0.mk (Kd.R_below (by (with_reducible repeat (first | apply Kd.R_alloc | apply Kd.R_drewN | apply Kd.R_drew)); exact HO_5.out) hb); have n1_ := Aside0.mk (Kd.R_below (by (with_reducible repeat (first | apply Kd.R_alloc | apply Kd.R_drewN | apply Kd.R_drew)); exact HO_6.out) hb); have n2_ := Aside0.mk (Kd.R_lower ho0 (below_size (by repeat (first | (with_reducible first | exact HB.out | apply below_alloc | apply pw_below_drewN | apply below_drew1) | exact HB.out)))); have n3_ := Aside0.mk (below_step (by repeat (first | (with_reducible first | exact HB.out | apply below_alloc | apply pw_below_drewN | apply below_drew1) | exact HB.out)) hb); clear HO_5; clear HO_6; clear HB; have HO_5 := n0_; have HO_6 := n1_; have HO484 := n2_; have HB := n3_; clear n0_ n1_ n2_ n3_; (try clear hb); (try clear hb2); (try clear hk); (try clear hi); (try clear ho0); obtain ⟨Ao21, co21, eo21⟩ := Kd.R_slice HO_6.out; subst eo21) | (go_at_call 18; (with_reducible refine (outline_Sections.calls k1 _ _ x6_1 t485 _ ?side1 ?side2 A17.out).mono ?_); (case side1 => repeat (first | exact (Kd.R_reads' HO_6.out).2.2 | (with_reducible refine Kd.C_alloc ?_ _) | (with_reducible refine Kd.C_drewN ?_ _) | (with_reducible refine Kd.C_drew ?_))); (case side2 => exact (Kd.R_reads' HO_6.out).2.1); rintro e w22 ⟨v486, rfl, ho0, hb⟩; have n0_ := Aside0.mk (Kd.R_below (by (with_reducible repeat (first | apply Kd.R_alloc | apply Kd.R_drewN | apply Kd.R_drew)); exact HO_5.out) hb); have n1_ := Aside0.mk (Kd.R_below (by (with_reducible repeat (first | apply Kd.R_alloc | apply Kd.R_drewN | apply Kd.R_drew)); exact HO_6.out) hb); have n2_ := Aside0.mk (Kd.R_elder' (by (with_reducible repeat (first | apply Kd.R_alloc | apply Kd.R_drewN | apply Kd.R_drew)); exact HO484.out) (Kd.R_base ho0) hb); have n3_ := Aside0.mk (Kd.R_lower (Kd.R_new' ho0 (Kd.R_lt (by (with_reducible repeat (first | apply Kd.R_alloc | apply Kd.R_drewN | apply Kd.R_drew)); exact HO484.out))) (below_size (by repeat (first | (with_reducible first | exact HB.out | apply below_alloc | apply pw_below_drewN | apply below_drew1) | exact HB.out)))); have n4_ := Aside0.mk (below_step (by repeat (first | (with_reducible first | exact HB.out | apply below_alloc | apply pw_below_drewN | apply below_drew1) | exact HB.out)) hb); clear HO_5; clear HO_6; clear HO484; clear HB; have HO_5 := n0_; have HO_6 := n1_; have HO484 := n2_; have HO487 := n3_; have HB := n4_; clear n0_ n1_ n2_ n3_ n4_; (try clear hb); (try clear hb2); (try clear hk); (try clear hi); (try clear ho0))))
            (try simp only [Act.put, List.setIfInBounds_toArray, List.set_cons_zero, List.set_cons_succ])
            go_cut [56] (fun v56 wc => ∃ (kq : Nat) (x56_17 : Bool), v56 = .bool x56_17 ∧ Aside0 (beadlelaw21_OutlineGrows.j1 kq x5_1 t482 t485 x56_17 = some true) ∧ Aside0 (kq ≤ k1) ∧ Aside0 (Kd.R (Kd.int .i64) 3 wc w.heap.size (fun _ => True) (.slice Ao19 x5_1.length co19) x5_1) ∧ Aside0 (Kd.R k47 47 wc w.heap.size (fun k_ => some k_ ≠ (v486 : Value).ownBlock) v483 t482) ∧ Aside0 (Kd.R k47 47 wc w.heap.size (fun k_ => some k_ ≠ (v483 : Value).ownBlock) v486 t485) ∧ Aside0 (Below w.heap.size w wc))
            case first =>
              have H := HC18.out
              clear HC18
              by_cases c23 : (t482.length : Int) = (x5_1.length : Int)
              · rw [if_pos c23] at H
                have c23b0 : ((t482.length : Int) == (x5_1.length : Int)) = true := beq_iff_eq.mpr c23
                have c23b1 : ((t482.length : Int) != (x5_1.length : Int)) = false := bne_eq_false_iff_eq.mpr c23
                have c23b2 : (t482.length == x5_1.length) = true := by first | simpa using c23 | (simp at c23 ⊢; omega)
                clear c23
                (first | rw [c23b0] | (simp only [i64_w, i32_w]; rw [c23b0]) | skip)
                have H' := Aside0.mk H
                clear H
                obtain ⟨Ao24, co24, eo24⟩ := Kd.R_slice HO484.out
                subst eo24
                obtain ⟨Ao25, co25, eo25⟩ := Kd.R_slice HO487.out
                subst eo25
                go_wp2
                repeat (go_quiet (fail); try go_wp2)
                go_meet
                case rel => exact ⟨_, (((t485.length : Int) != (x5_1.length : Int))), (by first | rfl | (simp; done) | (simp [*]; done)), H', ⟨by have := HK1.out; first | omega | exact Nat.le_refl _⟩, ⟨by (with_reducible repeat (first | apply Kd.R_alloc | apply Kd.R_drewN | apply Kd.R_drew)); exact Kd.R_mono HO_5.out (fun _ hk => trivial)⟩, ⟨by (with_reducible repeat (first | apply Kd.R_alloc | apply Kd.R_drewN | apply Kd.R_drew)); exact Kd.R_mono HO484.out (fun _ hk => hk.2)⟩, ⟨by (with_reducible repeat (first | apply Kd.R_alloc | apply Kd.R_drewN | apply Kd.R_drew)); exact Kd.R_mono HO487.out (fun _ hk => hk.2)⟩, ⟨by repeat (first | (with_reducible first | exact HB.out | apply below_alloc | apply pw_below_drewN | apply below_drew1) | exact HB.out)⟩⟩
              · rw [if_neg c23] at H
                have c23b0 : ((t482.length : Int) == (x5_1.length : Int)) = false := beq_eq_false_iff_ne.mpr c23
                have c23b1 : ((t482.length : Int) != (x5_1.length : Int)) = true := bne_iff_ne.mpr c23
                have c23b2 : (t482.length == x5_1.length) = false := by first | simpa using c23 | (simp at c23 ⊢; omega)
                (first | rw [c23b0] | (simp only [i64_w, i32_w]; rw [c23b0]) | skip)
                have H' := Aside0.mk H
                clear H
                obtain ⟨Ao26, co26, eo26⟩ := Kd.R_slice HO484.out
                subst eo26
                go_wp2
                repeat (go_quiet (fail); try go_wp2)
                go_meet
                case rel => exact ⟨_, (true), (by first | rfl | (simp; done) | (simp [*]; done)), H', ⟨by have := HK1.out; first | omega | exact Nat.le_refl _⟩, ⟨by (with_reducible repeat (first | apply Kd.R_alloc | apply Kd.R_drewN | apply Kd.R_drew)); exact Kd.R_mono HO_5.out (fun _ hk => trivial)⟩, ⟨by (with_reducible repeat (first | apply Kd.R_alloc | apply Kd.R_drewN | apply Kd.R_drew)); exact Kd.R_mono HO484.out (fun _ hk => hk.2)⟩, ⟨by (with_reducible repeat (first | apply Kd.R_alloc | apply Kd.R_drewN | apply Kd.R_drew)); exact Kd.R_mono HO487.out (fun _ hk => hk.2)⟩, ⟨by repeat (first | (with_reducible first | exact HB.out | apply below_alloc | apply pw_below_drewN | apply below_drew1) | exact HB.out)⟩⟩
            case rest =>
              clear HC18
              try clear c1
              try clear c2
              try clear p2
              try clear c4
              try clear p4
              try clear q4
              try clear hx4
              try clear c5
              try clear c5b0
              try clear c5b1
              try clear p6
              try clear c8
              try clear c8b0
              try clear c9
              try clear c9b0
              try clear c10
              try clear c11
              try clear c11b0
              try clear c12
              try clear c23
              try clear c23b0
              try clear c23b1
              try clear c23b2
              try clear hx474_0
              try clear hx478_0
              try clear p2
              try clear p474
              try clear p478
              try clear q474
              try clear q478
              obtain ⟨kq, x56_17, rfl, HA, HJ17, HO_5, HO_8, HO_9, HB⟩ := hcut
              cases kq with
              | zero => exact absurd HA.out (by simp [beadlelaw21_OutlineGrows.j1])
              | succ kj17 =>
                have H := HA.out
                clear HA
                simp only [beadlelaw21_OutlineGrows.j1] at H
                by_cases c27 : x56_17 = true
                · subst c27
                  have H1 : (some false) = some true := by rw [if_pos rfl] at H; exact H
                  clear H
                  have H := H1
                  clear H1
                  exact absurd (Option.some.inj H) (by decide)
                · replace c27 := Bool.eq_false_iff.mpr c27
                  subst c27
                  have H1 : (beadlelaw21_OutlineGrows.l1 kj17 x5_1 t482 t485 0) = some true := by rw [if_neg (show ¬ (false = true) by decide)] at H; exact H
                  clear H
                  have H := H1
                  clear H1
                  have H' := Aside0.mk H
                  clear H
                  go_wp2
                  repeat (go_quiet (fail); try go_wp2)
                  go_loopg [10] kj17 (fun kq v10 w' => ∃ (x10_3 : Int), v10 = .int .i64 x10_3 ∧ Aside0 (beadlelaw21_OutlineGrows.l1 kq x5_1 t482 t485 x10_3 = some true) ∧ Aside0 (kq ≤ kj17) ∧ Aside0 (Kd.R (Kd.int .i64) 3 w' w.heap.size (fun _ => True) (.slice Ao19 x5_1.length co19) x5_1) ∧ Aside0 (Kd.R k47 47 w' w.heap.size (fun k_ => some k_ ≠ (v486 : Value).ownBlock) v483 t482) ∧ Aside0 (Kd.R k47 47 w' w.heap.size (fun k_ => some k_ ≠ (v483 : Value).ownBlock) v486 t485) ∧ Aside0 (Below w.heap.size w w'))
                  case atStart => exact ⟨(0), (by first | rfl | (simp; done) | (simp [*]; done)), H', ⟨Nat.le_refl _⟩, ⟨by (with_reducible repeat (first | apply Kd.R_alloc | apply Kd.R_drewN | apply Kd.R_drew)); exact HO_5.out⟩, ⟨by (with_reducible repeat (first | apply Kd.R_alloc | apply Kd.R_drewN | apply Kd.R_drew)); exact HO_8.out⟩, ⟨by (with_reducible repeat (first | apply Kd.R_alloc | apply Kd.R_drewN | apply Kd.R_drew)); exact HO_9.out⟩, ⟨by repeat (first | (with_reducible first | exact HB.out | apply below_alloc | apply pw_below_drewN | apply below_drew1) | exact HB.out)⟩⟩
                  case round =>
                    clear H'
                    try clear c1
                    try clear c2
                    try clear p2
                    try clear c4
                    try clear p4
                    try clear q4
                    try clear hx4
                    try clear c5
                    try clear c5b0
                    try clear c5b1
                    try clear p6
                    try clear c8
                    try clear c8b0
                    try clear c9
                    try clear c9b0
                    try clear c10
                    try clear c11
                    try clear c11b0
                    try clear c12
                    try clear c23
                    try clear c23b0
                    try clear c23b1
                    try clear c23b2
                    try clear c27
                    try clear hx474_0
                    try clear hx478_0
                    try clear p2
                    try clear p4
                    try clear p474
                    try clear p478
                    try clear p6
                    try clear q4
                    try clear q474
                    try clear q478
                    obtain ⟨x10_3, rfl, HA, HK3, HO_5, HO_8, HO_9, HB⟩ := hrel
                    cases gk with
                    | zero => exact absurd HA.out (by simp [beadlelaw21_OutlineGrows.l1])
                    | succ k3 =>
                      have H := HA.out
                      clear HA
                      simp only [beadlelaw21_OutlineGrows.l1] at H
                      by_cases c28 : x10_3 < (t482.length : Int)
                      · rw [if_pos c28] at H
                        have c28b0 : decide (x10_3 < (t482.length : Int)) = true := decide_eq_true c28
                        clear c28
                        by_cases c29 : 0 ≤ x10_3
                        · rw [if_pos c29] at H
                          have c29b0 : decide (0 ≤ x10_3) = true := decide_eq_true c29
                          clear c29
                          by_cases c30 : x10_3 < (t485.length : Int)
                          · rw [if_pos c30] at H
                            have c30b0 : decide (x10_3 < (t485.length : Int)) = true := decide_eq_true c30
                            clear c30
                            by_cases c31 : (!(((rd_T47 t482 x10_3).f0) == ((rd_T47 t485 x10_3).f0)) || (!(((rd_T47 t482 x10_3).f1) == ((rd_T47 t485 x10_3).f1)))) = true
                            · rw [if_pos c31] at H
                              have c31b0 : (!(((rd_T47 t482 x10_3).f0) == ((rd_T47 t485 x10_3).f0)) || (!(((rd_T47 t482 x10_3).f1) == ((rd_T47 t485 x10_3).f1)))) = true := c31
                              clear c31
                              exact absurd (Option.some.inj H) (by decide)
                            · rw [if_neg c31] at H
                              have c31b0 : (!(((rd_T47 t482 x10_3).f0) == ((rd_T47 t485 x10_3).f0)) || (!(((rd_T47 t482 x10_3).f1) == ((rd_T47 t485 x10_3).f1)))) = false := by simpa using c31
                              clear c31
                              by_cases c34 : x10_3 = 0
                              · rw [if_pos c34] at H
                                have c34b0 : (x10_3 == 0) = true := beq_iff_eq.mpr c34
                                have c34b1 : (x10_3 != 0) = false := bne_eq_false_iff_eq.mpr c34
                                clear c34
                                by_cases c35 : ((rd_T47 t482 x10_3).f1) = 0
                                · rw [if_pos c35] at H
                                  have c35b0 : (((rd_T47 t482 x10_3).f1) == 0) = true := beq_iff_eq.mpr c35
                                  have c35b1 : (((rd_T47 t482 x10_3).f1) != 0) = false := bne_eq_false_iff_eq.mpr c35
                                  clear c35
                                  by_cases c36 : x10_3 > 0
                                  · exact absurd c36 (by have h := eq_of_beq c34b0; omega)
                                  · rw [if_neg c36] at H
                                    have c36b0 : decide (0 < x10_3) = false := decide_eq_false c36
                                    clear c36
                                    have H' := Aside0.mk H
                                    clear H
                                    obtain ⟨Ao50, co50, eo50⟩ := Kd.R_slice HO_8.out
                                    subst eo50
                                    have p488 : 0 ≤ (x10_3 : Int) := of_decide_eq_true (by first | (with_reducible assumption) | assumption)
                                    have q488 : x10_3 < (t482.length : Int) := of_decide_eq_true (by first | (with_reducible assumption) | assumption)
                                    obtain ⟨ad488, e488, hx488_0, hx488_1⟩ := at_T47 (Kd.R_reads' HO_8.out).2.2 x10_3 p488 q488
                                    cases e488
                                    replace p488 := eq_true p488
                                    replace q488 := eq_true q488
                                    obtain ⟨Ao51, co51, eo51⟩ := Kd.R_slice HO_9.out
                                    subst eo51
                                    have p489 : 0 ≤ (x10_3 : Int) := of_decide_eq_true (by first | (with_reducible assumption) | assumption)
                                    have q489 : x10_3 < (t485.length : Int) := of_decide_eq_true (by first | (with_reducible assumption) | assumption)
                                    obtain ⟨ad489, e489, hx489_0, hx489_1⟩ := at_T47 (Kd.R_reads' HO_9.out).2.2 x10_3 p489 q489
                                    cases e489
                                    replace p489 := eq_true p489
                                    replace q489 := eq_true q489
                                    have p490 : 0 ≤ (x10_3 : Int) := of_decide_eq_true (by first | (with_reducible assumption) | assumption)
                                    have q490 : x10_3 < (t482.length : Int) := of_decide_eq_true (by first | (with_reducible assumption) | assumption)
                                    obtain ⟨ad490, e490, hx490_0, hx490_1⟩ := at_T47 (Kd.R_reads' HO_8.out).2.2 x10_3 p490 q490
                                    obtain rfl : ad488 = ad490 := (by injection e490)
                                    replace p490 := eq_true p490
                                    replace q490 := eq_true q490
                                    go_wp2
                                    repeat (go_quiet (fail); try go_wp2)
                                    go_roundg k3
                                    case measure => have := HK1.out; have := HJ17.out; have := HK3.out; omega
                                    case rel => exact ⟨(wrap64 (x10_3 + 1)), (by first | rfl | (simp; done) | (simp [*]; done)), H', ⟨by have := HK1.out; have := HJ17.out; have := HK3.out; omega⟩, ⟨by (with_reducible repeat (first | apply Kd.R_alloc | apply Kd.R_drewN | apply Kd.R_drew)); exact HO_5.out⟩, ⟨by (with_reducible repeat (first | apply Kd.R_alloc | apply Kd.R_drewN | apply Kd.R_drew)); exact HO_8.out⟩, ⟨by (with_reducible repeat (first | apply Kd.R_alloc | apply Kd.R_drewN | apply Kd.R_drew)); exact HO_9.out⟩, ⟨by repeat (first | (with_reducible first | exact HB.out | apply below_alloc | apply pw_below_drewN | apply below_drew1) | exact HB.out)⟩⟩
                                · rw [if_neg c35] at H
                                  have c35b0 : (((rd_T47 t482 x10_3).f1) == 0) = false := beq_eq_false_iff_ne.mpr c35
                                  have c35b1 : (((rd_T47 t482 x10_3).f1) != 0) = true := bne_iff_ne.mpr c35
                                  exact absurd (Option.some.inj H) (by decide)
                              · rw [if_neg c34] at H
                                have c34b0 : (x10_3 == 0) = false := beq_eq_false_iff_ne.mpr c34
                                have c34b1 : (x10_3 != 0) = true := bne_iff_ne.mpr c34
                                by_cases c54 : x10_3 > 0
                                · rw [if_pos c54] at H
                                  have c54b0 : decide (0 < x10_3) = true := decide_eq_true c54
                                  clear c54
                                  obtain ⟨ji55, hji55⟩ : ∃ j_ : Int, (wrap64 (x10_3 - 1)) = j_ := ⟨_, rfl⟩
                                  replace H : (if 0 ≤ (ji55) then (if (ji55) < (t482.length : Int) then (if ((rd_T47 t482 x10_3).f1) > (wrap64 (((rd_T47 t482 (ji55)).f1) + 1)) then (some false) else (if x10_3 < (x5_1.length : Int) then (if (ji55) < (x5_1.length : Int) then (if ((decide (((rd_T47 t482 x10_3).f1) > ((rd_T47 t482 (ji55)).f1))) != (decide ((rd x5_1 x10_3) > (rd x5_1 (ji55))))) = true then (some false) else (beadlelaw21_OutlineGrows.l1 k3 x5_1 t482 t485 (wrap64 (x10_3 + 1)))) else (none)) else (none))) else (none)) else (none)) = some true := by first | (rw [hji55] at H; exact H) | (simp only [hji55] at H ⊢; exact H)
                                  have hji55w : (IntKind.i64.wrap (x10_3 - 1)) = ji55 := (i64_w _).trans hji55
                                  by_cases c56 : 0 ≤ (ji55)
                                  · rw [if_pos c56] at H
                                    have c56b0 : decide (0 ≤ (ji55)) = true := decide_eq_true c56
                                    clear c56
                                    by_cases c57 : (ji55) < (t482.length : Int)
                                    · rw [if_pos c57] at H
                                      have c57b0 : decide ((ji55) < (t482.length : Int)) = true := decide_eq_true c57
                                      clear c57
                                      by_cases c58 : ((rd_T47 t482 x10_3).f1) > (wrap64 (((rd_T47 t482 (ji55)).f1) + 1))
                                      · rw [if_pos c58] at H
                                        have c58b0 : decide ((wrap64 (((rd_T47 t482 (ji55)).f1) + 1)) < ((rd_T47 t482 x10_3).f1)) = true := decide_eq_true c58
                                        clear c58
                                        exact absurd (Option.some.inj H) (by decide)
                                      · rw [if_neg c58] at H
                                        have c58b0 : decide ((wrap64 (((rd_T47 t482 (ji55)).f1) + 1)) < ((rd_T47 t482 x10_3).f1)) = false := decide_eq_false c58
                                        clear c58
                                        by_cases c61 : x10_3 < (x5_1.length : Int)
                                        · rw [if_pos c61] at H
                                          have c61b0 : decide (x10_3 < (x5_1.length : Int)) = true := decide_eq_true c61
                                          clear c61
                                          by_cases c62 : (ji55) < (x5_1.length : Int)
                                          · rw [if_pos c62] at H
                                            have c62b0 : decide ((ji55) < (x5_1.length : Int)) = true := decide_eq_true c62
                                            clear c62
                                            by_cases c63 : ((decide (((rd_T47 t482 x10_3).f1) > ((rd_T47 t482 (ji55)).f1))) != (decide ((rd x5_1 x10_3) > (rd x5_1 (ji55))))) = true
                                            · rw [if_pos c63] at H
                                              have c63b0 : ((decide (((rd_T47 t482 x10_3).f1) > ((rd_T47 t482 (ji55)).f1))) != (decide ((rd x5_1 x10_3) > (rd x5_1 (ji55))))) = true := c63
                                              (try (have c63b1 : decide ((decide (((rd_T47 t482 x10_3).f1) > ((rd_T47 t482 (ji55)).f1))) = (decide ((rd x5_1 x10_3) > (rd x5_1 (ji55))))) = false := by simpa using c63))
                                              (try (have c63b2 : ((decide (((rd_T47 t482 x10_3).f1) > ((rd_T47 t482 (ji55)).f1))) == (decide ((rd x5_1 x10_3) > (rd x5_1 (ji55))))) = false := by simpa using c63))
                                              (try (have c63b3 : ¬ ((decide (((rd_T47 t482 x10_3).f1) > ((rd_T47 t482 (ji55)).f1))) = (decide ((rd x5_1 x10_3) > (rd x5_1 (ji55))))) := by simpa using c63))
                                              clear c63
                                              exact absurd (Option.some.inj H) (by decide)
                                            · rw [if_neg c63] at H
                                              have c63b0 : ((decide (((rd_T47 t482 x10_3).f1) > ((rd_T47 t482 (ji55)).f1))) != (decide ((rd x5_1 x10_3) > (rd x5_1 (ji55))))) = false := by simpa using c63
                                              (try (have c63b1 : decide ((decide (((rd_T47 t482 x10_3).f1) > ((rd_T47 t482 (ji55)).f1))) = (decide ((rd x5_1 x10_3) > (rd x5_1 (ji55))))) = true := by simpa using c63))
                                              (try (have c63b2 : ((decide (((rd_T47 t482 x10_3).f1) > ((rd_T47 t482 (ji55)).f1))) == (decide ((rd x5_1 x10_3) > (rd x5_1 (ji55))))) = true := by simpa using c63))
                                              clear c63
                                              have H' := Aside0.mk H
                                              clear H
                                              obtain ⟨Ao66, co66, eo66⟩ := Kd.R_slice HO_8.out
                                              subst eo66
                                              have p488 : 0 ≤ (x10_3 : Int) := of_decide_eq_true (by first | (with_reducible assumption) | assumption)
                                              have q488 : x10_3 < (t482.length : Int) := of_decide_eq_true (by first | (with_reducible assumption) | assumption)
                                              obtain ⟨ad488, e488, hx488_0, hx488_1⟩ := at_T47 (Kd.R_reads' HO_8.out).2.2 x10_3 p488 q488
                                              cases e488
                                              replace p488 := eq_true p488
                                              replace q488 := eq_true q488
                                              obtain ⟨Ao67, co67, eo67⟩ := Kd.R_slice HO_9.out
                                              subst eo67
                                              have p489 : 0 ≤ (x10_3 : Int) := of_decide_eq_true (by first | (with_reducible assumption) | assumption)
                                              have q489 : x10_3 < (t485.length : Int) := of_decide_eq_true (by first | (with_reducible assumption) | assumption)
                                              obtain ⟨ad489, e489, hx489_0, hx489_1⟩ := at_T47 (Kd.R_reads' HO_9.out).2.2 x10_3 p489 q489
                                              cases e489
                                              replace p489 := eq_true p489
                                              replace q489 := eq_true q489
                                              have p497 : 0 ≤ (x10_3 : Int) := of_decide_eq_true (by first | (with_reducible assumption) | assumption)
                                              have q497 : x10_3 < (t482.length : Int) := of_decide_eq_true (by first | (with_reducible assumption) | assumption)
                                              obtain ⟨ad497, e497, hx497_0, hx497_1⟩ := at_T47 (Kd.R_reads' HO_8.out).2.2 x10_3 p497 q497
                                              obtain rfl : ad488 = ad497 := (by injection e497)
                                              replace p497 := eq_true p497
                                              replace q497 := eq_true q497
                                              have p498 : 0 ≤ ((ji55) : Int) := of_decide_eq_true (by first | (with_reducible assumption) | assumption)
                                              have q498 : (ji55) < (t482.length : Int) := of_decide_eq_true (by first | (with_reducible assumption) | assumption)
                                              obtain ⟨ad498, e498, hx498_0, hx498_1⟩ := at_T47 (Kd.R_reads' HO_8.out).2.2 (ji55) p498 q498
                                              obtain rfl : ad488 = ad498 := (by injection e498)
                                              replace p498 := eq_true p498
                                              replace q498 := eq_true q498
                                              have p499 : 0 ≤ (x10_3 : Int) := of_decide_eq_true (by first | (with_reducible assumption) | assumption)
                                              have q499 : x10_3 < (t482.length : Int) := of_decide_eq_true (by first | (with_reducible assumption) | assumption)
                                              obtain ⟨ad499, e499, hx499_0, hx499_1⟩ := at_T47 (Kd.R_reads' HO_8.out).2.2 x10_3 p499 q499
                                              obtain rfl : ad488 = ad499 := (by injection e499)
                                              replace p499 := eq_true p499
                                              replace q499 := eq_true q499
                                              have p500 : 0 ≤ ((ji55) : Int) := of_decide_eq_true (by first | (with_reducible assumption) | assumption)
                                              have q500 : (ji55) < (t482.length : Int) := of_decide_eq_true (by first | (with_reducible assumption) | assumption)
                                              obtain ⟨ad500, e500, hx500_0, hx500_1⟩ := at_T47 (Kd.R_reads' HO_8.out).2.2 (ji55) p500 q500
                                              obtain rfl : ad488 = ad500 := (by injection e500)
                                              replace p500 := eq_true p500
                                              replace q500 := eq_true q500
                                              have p501 : 0 ≤ (x10_3 : Int) := of_decide_eq_true (by first | (with_reducible assumption) | assumption)
                                              have q501 : x10_3 < (x5_1.length : Int) := of_decide_eq_true (by first | (with_reducible assumption) | assumption)
                                              obtain ⟨ad501, e501, hx501_0⟩ := Kd.at_int (Kd.R_reads' HO_5.out).2.2 x10_3 p501 q501
                                              cases e501
                                              replace p501 := eq_true p501
                                              replace q501 := eq_true q501
                                              have p502 : 0 ≤ ((ji55) : Int) := of_decide_eq_true (by first | (with_reducible assumption) | assumption)
                                              have q502 : (ji55) < (x5_1.length : Int) := of_decide_eq_true (by first | (with_reducible assumption) | assumption)
                                              obtain ⟨ad502, e502, hx502_0⟩ := Kd.at_int (Kd.R_reads' HO_5.out).2.2 (ji55) p502 q502
                                              obtain rfl : ad501 = ad502 := (by injection e502)
                                              replace p502 := eq_true p502
                                              replace q502 := eq_true q502
                                              go_wp2
                                              repeat (go_quiet (fail); try go_wp2)
                                              go_roundg k3
                                              case measure => have := HK1.out; have := HJ17.out; have := HK3.out; omega
                                              case rel => exact ⟨(wrap64 (x10_3 + 1)), (by first | rfl | (simp; done) | (simp [*]; done)), H', ⟨by have := HK1.out; have := HJ17.out; have := HK3.out; omega⟩, ⟨by (with_reducible repeat (first | apply Kd.R_alloc | apply Kd.R_drewN | apply Kd.R_drew)); exact HO_5.out⟩, ⟨by (with_reducible repeat (first | apply Kd.R_alloc | apply Kd.R_drewN | apply Kd.R_drew)); exact HO_8.out⟩, ⟨by (with_reducible repeat (first | apply Kd.R_alloc | apply Kd.R_drewN | apply Kd.R_drew)); exact HO_9.out⟩, ⟨by repeat (first | (with_reducible first | exact HB.out | apply below_alloc | apply pw_below_drewN | apply below_drew1) | exact HB.out)⟩⟩
                                          · rw [if_neg c62] at H
                                            exact absurd H (by simp)
                                        · rw [if_neg c61] at H
                                          exact absurd H (by simp)
                                    · rw [if_neg c57] at H
                                      exact absurd H (by simp)
                                  · rw [if_neg c56] at H
                                    exact absurd H (by simp)
                                · exact absurd (show x10_3 > 0 from by have h := of_decide_eq_true c29b0; omega) c54
                          · rw [if_neg c30] at H
                            exact absurd H (by simp)
                        · rw [if_neg c29] at H
                          exact absurd H (by simp)
                      · rw [if_neg c28] at H
                        have c28b0 : decide (x10_3 < (t482.length : Int)) = false := decide_eq_false c28
                        clear c28
                        obtain ⟨Ao70, co70, eo70⟩ := Kd.R_slice HO_8.out
                        subst eo70
                        go_wp2
                        repeat (go_quiet (fail); try go_wp2)
                        go_ret
                        exact ⟨by first | rfl | (simp [errW_none, errW_some] <;> rfl) | (simp [*, errW_none, errW_some] <;> rfl), by repeat (first | (with_reducible first | exact HB.out | apply below_alloc | apply pw_below_drewN | apply below_drew1) | exact HB.out)⟩
  · replace c4 := Bool.eq_false_iff.mpr c4
    subst c4
    have H1 : (some false) = some true := by rw [if_neg (show ¬ (false = true) by decide)] at H; exact H
    clear H
    have H := H1
    clear H1
    exact absurd (Option.some.inj H) (by decide)
end Go.Proofs.YtomdidopflebjaaGreatDoor.PM
section
section
set_option linter.unusedVariables false
namespace Go.Proofs.YtomdidopflebjaaGreatDoor.Opens
open Go.Proofs.YtomdidopflebjaaGreatDoorW.PrintWords
/-- Every weight is within the reach. -/
def Light {H : Type} (P : Program) (T : TypeId) (x : DataW H) : Prop := ∀ n ∈ x.weights P T, n ≤ 140737488351232
structure Opn {α : Type} (P : Program) (d : Kd α) (T : TypeId) (B : α → Nat) (Wf Sz : α → Prop) : Prop where
  cells : P.cellsOf T = d.sz
  open_ : ∀ {H : Type} {enc : TypeId × Value → H} {W : World} {base : Nat} {spare : Nat → Bool} {held : Bool} {fuel : Nat} {cs : List Value} {x : DataW H × List MemPlace},
    DataW.trod enc P W base spare held fuel T cs = some x → ∃ a, d.K W a cs ∧ B a ≤ Rows.uptoBulk x.1 ∧ Wf a ∧ (Light P T x.1 → Sz a)
theorem one_le {H : Type} (d : DataW H) : 1 ≤ Rows.uptoBulk d := by
  cases d with
  | lit l => cases l <;> simp [Rows.uptoBulk]
  | nil => simp [Rows.uptoBulk]
  | ptr d => simp [Rows.uptoBulk]
  | slice elems spare => simp [Rows.uptoBulk]
  | agg parts => simp [Rows.uptoBulk]
  | iface t d => simp [Rows.uptoBulk]
  | map entries => simp [Rows.uptoBulk]
  | held h => simp [Rows.uptoBulk]
theorem all_append {H : Type} (l r : List (DataW H)) : Rows.uptoBulkAll (l ++ r) = Rows.uptoBulkAll l + Rows.uptoBulkAll r := by
  induction l with
  | nil => simp [Rows.uptoBulkAll]
  | cons x l ih => simp only [List.cons_append, Rows.uptoBulkAll, ih]; omega
theorem bound {H : Type} {l : List (DataW H)} (hk : Rows.uptoSmall H l = true) : Rows.uptoBulkAll l ≤ 1048576 := of_decide_eq_true hk
section
variable {P : Program} {T : TypeId}
theorem Opn.int {k : IntKind} (hT : P.underlying T = some (.int k)) (hc : P.cellsOf T = 1) : Opn P (Kd.int k) T (fun _ => 1) (fun n => (Lit.int k n).wf = true) (fun _ => True) :=
  ⟨hc, fun h => by
    obtain ⟨n, rfl, rfl, hw⟩ := DataW.trod_int hT h
    exact ⟨n, rfl, one_le _, hw, fun _ => trivial⟩⟩
theorem weights_mem_all {H : Type} {e : TypeId} : ∀ {ds : List (DataW H)} {i : Nat} {d : DataW H}, ds[i]? = some d → ∀ n ∈ d.weights P e, n ∈ DataW.weightsAll P e ds
  | d0 :: ds, 0, d, h, n, hn => by
    obtain rfl : d0 = d := by simpa using h
    simp only [DataW.weightsAll, List.mem_append]
    exact .inl hn
  | d0 :: ds, i + 1, d, h, n, hn => by
    simp only [DataW.weightsAll, List.mem_append]
    exact .inr (weights_mem_all (by simpa using h) n hn)
  | [], i, d, h, _, _ => by simp at h
def sumB {α : Type} (B : α → Nat) (xs : List α) : Nat := (xs.map B).sum
theorem sumB_cons {α : Type} (B : α → Nat) (x : α) (xs : List α) : sumB B (x :: xs) = B x + sumB B xs := by simp [sumB]
theorem all_map_le {H α : Type} {B : α → Nat} {ys : List (DataW H)} {xs : List α} (hl : xs.length = ys.length) (h : ∀ (i : Nat) (x : α) (y : DataW H), xs[i]? = some x → ys[i]? = some y → B x ≤ Rows.uptoBulk y) : sumB B xs ≤ Rows.uptoBulkAll ys := by
  induction xs generalizing ys with
  | nil => simp [sumB]
  | cons x xs ih =>
    match ys, hl with
    | y :: ys, hl =>
      rw [sumB_cons]
      simp only [Rows.uptoBulkAll]
      have h0 := h 0 x y rfl rfl
      have := ih (ys := ys) (by simpa using hl) (fun i a b ha hb => h (i + 1) a b (by simpa using ha) (by simpa using hb))
      omega
theorem list_of {α : Type} {p : Nat → α → Prop} : ∀ n, (∀ i, i < n → ∃ a, p i a) → ∃ xs : List α, xs.length = n ∧ ∀ i x, xs[i]? = some x → p i x
  | 0, _ => ⟨[], rfl, fun i x h => by simp at h⟩
  | n + 1, h => by
    obtain ⟨xs, hl, hx⟩ := list_of n (fun i hi => h i (by omega))
    obtain ⟨a, ha⟩ := h n (by omega)
    refine ⟨xs ++ [a], by simp [hl], fun i x hi => ?_⟩
    by_cases e : i < n
    · rw [List.getElem?_append_left (by omega)] at hi
      exact hx i x hi
    · rw [List.getElem?_append_right (by omega), hl] at hi
      obtain ⟨e1, e2⟩ : i - n = 0 ∧ a = x := by
        cases hh : i - n with
        | zero => rw [hh] at hi; exact ⟨rfl, by simpa using hi⟩
        | succ m => rw [hh] at hi; simp at hi
      obtain rfl : i = n := by omega
      exact e2 ▸ ha
theorem Opn.slice {α : Type} {d : Kd α} {B : α → Nat} {Wf Sz : α → Prop} {e : TypeId} {by_ : Nat} (hT : P.underlying T = some (.slice e)) (hc : P.cellsOf T = 1) (hby : P.bytesOf e = by_) (h : Opn P d e B Wf Sz) :
    Opn P (Kd.slice e d) T (fun xs => sumB B xs + 1) (fun xs => xs.length ≤ maxLen ∧ ∀ x ∈ xs, Wf x) (fun xs => xs.length * by_ ≤ 140737488351232 ∧ ∀ x ∈ xs, Sz x) :=
  ⟨hc, fun {H enc W base spare held fuel cs x} ht => by
    rcases Go.Deep.open_slice hT ht with ⟨rfl, rfl⟩ | ⟨a, len, cap, m, n, D, Pl, rfl, hb, hl, hm, hmm, rfl, hx⟩
    · exact ⟨[], ⟨none, 0, rfl, Nat.le_refl _, rfl, by simp, fun hn => absurd hn (by simp)⟩, by simp [sumB, Rows.uptoBulk], by simp, by simp⟩
    · have hlm : len ≤ m := by rw [hmm]; split <;> omega
      obtain ⟨xs, hxl, hxs⟩ := list_of (α := α) (p := fun i v => ∃ cs', W.cells? base (a.add (i * P.cellsOf e)) (P.cellsOf e) = some cs' ∧ d.K W v cs' ∧ B v ≤ Rows.uptoBulk (D i) ∧ Wf v ∧ (Light P e (D i) → Sz v)) len (fun i hi => by
        obtain ⟨cs', h1, h2⟩ := hx i (by omega)
        obtain ⟨v, hK, hB, hw, hz⟩ := h.open_ h2
        exact ⟨v, cs', h1, hK, hB, hw, hz⟩)
      refine ⟨xs, ⟨some a, cap, by rw [hxl], by omega, rfl, by rw [hxl]; simp only [maxLen] at hm; omega, fun _ => ⟨a, rfl, fun j p hj => ?_⟩⟩, ?_, ⟨by rw [hxl]; omega, fun v hv => ?_⟩, fun hL => ⟨?_, fun v hv => ?_⟩⟩
      · obtain ⟨cs', h1, hK, _, _⟩ := hxs j p hj
        obtain ⟨_, hlen, hcell⟩ := World.cells?_some h1
        rw [h.cells] at hlen hcell
        refine ⟨cs', hlen, hK, fun i u hu => ?_⟩
        have hil : i < cs'.length := (List.getElem?_eq_some_iff.1 hu).1
        have := hcell i (by omega)
        rw [Go.Deep.add_add a (j * d.sz) i] at this
        rw [this]
        exact hu
      · simp only [Rows.uptoBulk]
        have h1 := all_map_le (B := B) (ys := (List.range len).map D) (xs := xs) (by simp [hxl]) (fun i v y hi hy => by
          obtain ⟨_, _, _, hB, _⟩ := hxs i v hi
          have hil : i < len := by have := (List.getElem?_eq_some_iff.1 hi).1; omega
          rw [List.getElem?_map, List.getElem?_range hil] at hy
          simp only [Option.map_some, Option.some.injEq] at hy
          rw [← hy]; exact hB)
        omega
      · obtain ⟨i, hi⟩ := List.getElem?_of_mem hv
        exact (hxs i v hi).choose_spec.2.2.2.1
      · rw [hxl]
        have h1 := hL ((((List.range len).map D).length + ((List.range (m - len)).map fun j => D (len + j)).length) * P.bytesOf e) (by simp [DataW.weights, hT])
        simp only [List.length_map, List.length_range] at h1
        rw [hby] at h1
        exact Nat.le_trans (Nat.mul_le_mul_right _ (by omega)) h1
      · obtain ⟨i, hi⟩ := List.getElem?_of_mem hv
        refine (hxs i v hi).choose_spec.2.2.2.2 (fun k hk => ?_)
        have hil : i < len := by have := (List.getElem?_eq_some_iff.1 hi).1; omega
        refine hL k ?_
        simp only [DataW.weights, hT, List.mem_cons, List.mem_append]
        exact .inr (.inl (weights_mem_all (i := i) (by rw [List.getElem?_map, List.getElem?_range hil]; rfl) k hk))⟩
/-- A slice that is an argument. -/
theorem open_row {α : Type} {d : Kd α} {B : List α → Nat} {Wf Sz : List α → Prop} {e : TypeId} {H : Type} {enc : TypeId × Value → H} {W : World} {b0 : Nat} {base : Nat} {spare : Nat → Bool} {held : Bool} {r : Reach} {v : Value} {x : DataW H} {p : List MemPlace}
    (h : Opn P (Kd.slice e d) T B Wf Sz) (hT : P.underlying T = some (.slice e)) (hv : Value.okWide P W r b0 T v) (ht : DataW.Trod enc P W base spare held T v x p) :
    ∃ A c xs, v = .slice A xs.length c ∧ xs.length ≤ c ∧ d.C W A xs.length xs ∧ B xs ≤ Rows.uptoBulk x ∧ Wf xs ∧ (Light P T x → Sz xs) := by
  obtain ⟨A, n, c, rfl⟩ := WideShapes.okWide_slice hT hv
  obtain ⟨fuel, hf⟩ := ht
  obtain ⟨xs, ⟨A', c', he, hc, hC⟩, hB, hw, hz⟩ := h.open_ hf
  have he' : [Value.slice A n c] = [Value.slice A' xs.length c'] := he
  simp only [List.cons.injEq, Value.slice.injEq, and_true] at he'
  obtain ⟨rfl, rfl, rfl⟩ := he'
  exact ⟨_, _, xs, rfl, hc, hC, hB, hw, hz⟩
/-- A world of one's own making: the input that fits. -/
theorem witness_door {H : Type} {enc : TypeId × Value → H} {C : Checked} {os : Os} {f : FuncId} {fn : Func} {s : OpenSpec} {conds : List PathCond} {apart : Bool} {laid : List (String × DataW Unit)} (modest : Bool) (w0 : World) (args : Array Value) (hos : w0.os = os)
    (hsh : (w0.forCall (fun _ _ => 0) ⟨#[], args, []⟩).Shaped C.prog)
    (hok : Input.okWideB C.prog (w0.forCall (fun _ _ => 0) ⟨#[], args, []⟩) f ⟨#[], args, []⟩ = true)
    (hrow : s.preRow enc C.prog fn conds apart laid (w0.forCall (fun _ _ => 0) ⟨#[], args, []⟩).memory args) :
    ∃ (w : World) (tape : Tape) (i : Input), w.os = os ∧ (w.forCall tape i).Shaped C.prog ∧ i.vars = [] ∧ Input.okWide C.prog (w.forCall tape i) .any w.heap.size f i ∧
      s.preRow enc C.prog fn conds apart laid (w.forCall tape i).memory i.args ∧ ({ modest := modest } : Assume).holds C.prog (lone (Frame.enter C.prog f i.args .normal) [] (w.forCall tape i)) :=
  ⟨w0, fun _ _ => 0, ⟨#[], args, []⟩, hos, hsh, (Input.okWide_of_okWideB (base := 0) hok).1, (Input.okWide_of_okWideB hok).2, hrow, by
    simp only [Assume.holds]
    exact ⟨by simp, by simp, fun _ => Modest.zero, by simp, by simp⟩⟩
end
end Go.Proofs.YtomdidopflebjaaGreatDoor.Opens
end
end
namespace Go.Proofs.YtomdidopflebjaaGreatDoor.PM
open Go.RowKit Go.Proofs.YtomdidopflebjaaGreatDoorW.PrintWords Go.Proofs.YtomdidopflebjaaGreatDoorW.PrintLast
/-- What is left of OutlineGrows, in plain words. -/
def beadlelaw21_OutlineGrows.Ask : Prop := ∀ (l0 : List Int) (a1 : Int), ((l0.length ≤ maxLen ∧ ∀ el0 ∈ l0, (Lit.int .i64 el0).wf = true)) → ((Lit.int .i64 a1).wf = true) → ((Opens.sumB (fun _ => 1) l0 + 1) + 1 ≤ 1048576) → ∃ k, beadlelaw21_OutlineGrows.f k l0 a1 = some true
end Go.Proofs.YtomdidopflebjaaGreatDoor.PM
namespace Go.Proofs.YtomdidopflebjaaGreatDoor.Pure
open Go.RowKit Go.Proofs.YtomdidopflebjaaGreatDoor.PM Go.Proofs.YtomdidopflebjaaGreatDoorW.PrintWords Go.Proofs.YtomdidopflebjaaGreatDoorW.PrintLast
theorem speaks_at : beadlelaw21_speaks.f 60 = some true := by kernel_rfl
theorem speaks_ev : ∃ K, ∀ k, K ≤ k → beadlelaw21_speaks.f k = some true := Ev.of beadlelaw21_speaks.mono speaks_at
end Go.Proofs.YtomdidopflebjaaGreatDoor.Pure
namespace Go.Proofs.YtomdidopflebjaaGreatDoor.Pure
open Go.RowKit Go.Proofs.YtomdidopflebjaaGreatDoor.PM Go.Proofs.YtomdidopflebjaaGreatDoorW.PrintWords Go.Proofs.YtomdidopflebjaaGreatDoorW.PrintLast
namespace Secs
theorem w64 {n : Int} (h0 : -9223372036854775808 ≤ n) (h1 : n ≤ 9223372036854775807) : wrap64 n = n := by unfold wrap64; omega
/-- The nearest place ahead of j whose number is below v. -/
def back (l : List Int) (v : Int) : Nat → Option Nat
  | 0 => none
  | j + 1 => if rd l (j : Int) < v then some j else back l v j
theorem back_pos {l : List Int} {v : Int} {j : Nat} (h : rd l (j : Int) < v) : back l v (j + 1) = some j := by unfold back; rw [if_pos h]
theorem back_neg {l : List Int} {v : Int} {j : Nat} (h : ¬ rd l (j : Int) < v) : back l v (j + 1) = back l v j := by
  show (if rd l (j : Int) < v then some j else back l v j) = _
  rw [if_neg h]
/-- From a place on, or from none. -/
def nxt (l : List Int) (v : Int) : Option Nat → Option Nat
  | none => none
  | some q => back l v (q + 1)
/-- The chain of places from one on: each the nearest below. -/
inductive Ch (l : List Int) : Option Nat → List Nat → Prop
  | nil : Ch l none []
  | cons (j : Nat) (S : List Nat) : Ch l (back l (rd l (j : Int)) j) S → Ch l (some j) (j :: S)
theorem back_lt (l : List Int) (v : Int) (q : Nat) : ∀ j, back l v j = some q → q < j
  | 0, h => by simp [back] at h
  | j + 1, h => by
    unfold back at h
    split at h
    · injection h with h; omega
    · have := back_lt l v q j h; omega
theorem back_skip (l : List Int) (v u : Int) (hu : v ≤ u) : ∀ j, back l v j = nxt l v (back l u j)
  | 0 => rfl
  | j + 1 => by
    by_cases h : rd l (j : Int) < u
    · rw [back_pos h]
      rfl
    · rw [back_neg h, back_neg (show ¬ rd l (j : Int) < v by omega)]
      exact back_skip l v u hu j
theorem Ch.lt {l : List Int} {o : Option Nat} {S : List Nat} (h : Ch l o S) (n : Nat) (ho : ∀ j, o = some j → j < n) : (∀ x ∈ S, x < n) ∧ S.length ≤ n := by
  induction h generalizing n with
  | nil => simp
  | cons j S _ ih =>
    have hj := ho j rfl
    obtain ⟨h1, h2⟩ := ih j (fun q hq => back_lt _ _ _ _ hq)
    refine ⟨fun x hx => ?_, by simp; omega⟩
    rcases List.mem_cons.1 hx with rfl | hx
    · exact hj
    · exact Nat.lt_trans (h1 x hx) hj
/-- The chain ahead of place i. -/
def Dp (l : List Int) (i d : Nat) : Prop := ∃ S, Ch l (back l (rd l (i : Int)) i) S ∧ d = S.length
theorem Dp.le {l : List Int} {i d : Nat} (h : Dp l i d) : d ≤ i := by
  obtain ⟨S, h1, rfl⟩ := h
  exact (h1.lt i (fun q hq => back_lt _ _ _ _ hq)).2
/-- What is left of a chain when those not below v are taken off. -/
def drops (l : List Int) (v : Int) : List Nat → List Nat
  | [] => []
  | t :: S => if v ≤ rd l (t : Int) then drops l v S else t :: S
theorem drops_pos {l : List Int} {v : Int} {t : Nat} {S : List Nat} (h : v ≤ rd l (t : Int)) : drops l v (t :: S) = drops l v S := by
  show (if v ≤ rd l (t : Int) then drops l v S else t :: S) = _
  rw [if_pos h]
theorem drops_neg {l : List Int} {v : Int} {t : Nat} {S : List Nat} (h : ¬ v ≤ rd l (t : Int)) : drops l v (t :: S) = t :: S := by
  show (if v ≤ rd l (t : Int) then drops l v S else t :: S) = _
  rw [if_neg h]
theorem drops_le (l : List Int) (v : Int) : ∀ S, (drops l v S).length ≤ S.length
  | [] => Nat.le_refl _
  | t :: S => by
    unfold drops
    split
    · exact Nat.le_succ_of_le (drops_le l v S)
    · exact Nat.le_refl _
theorem drops_ch {l : List Int} {v : Int} {o : Option Nat} {S : List Nat} (h : Ch l o S) : Ch l (nxt l v o) (drops l v S) := by
  induction h with
  | nil => exact .nil
  | cons j S hS ih =>
    unfold drops
    by_cases hv : v ≤ rd l (j : Int)
    · rw [if_pos hv]
      show Ch l (back l v (j + 1)) _
      rw [back_neg (show ¬ rd l (j : Int) < v by omega), back_skip l v _ hv j]
      exact ih
    · rw [if_neg hv]
      show Ch l (back l v (j + 1)) _
      rw [back_pos (show rd l (j : Int) < v by omega)]
      exact .cons j S hS
/-- The stack behind i numbers, the last one ahead. -/
def stk (l : List Int) : Nat → List Nat
  | 0 => []
  | i + 1 => i :: drops l (rd l (i : Int)) (stk l i)
def dep (l : List Int) (i : Nat) : Nat := (drops l (rd l (i : Int)) (stk l i)).length
theorem stk_ch (l : List Int) : ∀ i, Ch l (match i with | 0 => none | j + 1 => some j) (stk l i)
  | 0 => .nil
  | i + 1 => by
    have h := stk_ch l i
    have h2 := drops_ch (v := rd l (i : Int)) h
    refine .cons i _ ?_
    cases i with
    | zero => exact h2
    | succ i => exact h2
theorem dep_Dp (l : List Int) (i : Nat) : Dp l i (dep l i) := by
  have h2 := drops_ch (v := rd l (i : Int)) (stk_ch l i)
  refine ⟨_, ?_, rfl⟩
  cases i with
  | zero => exact h2
  | succ i => exact h2
theorem stk_length (l : List Int) (i : Nat) : (stk l (i + 1)).length = dep l i + 1 := rfl
/-- One more at most, and more just where the number is greater. -/
theorem dep_step (l : List Int) (i : Nat) : (dep l (i + 1) = dep l i + 1 ∧ rd l (i : Int) < rd l ((i + 1 : Nat) : Int)) ∨ (dep l (i + 1) ≤ dep l i ∧ ¬ rd l (i : Int) < rd l ((i + 1 : Nat) : Int)) := by
  have e : dep l (i + 1) = (if rd l ((i + 1 : Nat) : Int) ≤ rd l (i : Int) then drops l (rd l ((i + 1 : Nat) : Int)) (drops l (rd l (i : Int)) (stk l i)) else i :: drops l (rd l (i : Int)) (stk l i)).length := rfl
  by_cases h : rd l ((i + 1 : Nat) : Int) ≤ rd l (i : Int)
  · right
    rw [if_pos h] at e
    exact ⟨by rw [e]; exact drops_le _ _ _, by omega⟩
  · left
    rw [if_neg h] at e
    exact ⟨by rw [e]; rfl, by omega⟩
theorem drops_congr (l m : List Int) (v u : Int) (S : List Nat) (h : ∀ t ∈ S, (v ≤ rd l (t : Int)) ↔ (u ≤ rd m (t : Int))) : drops l v S = drops m u S := by
  induction S with
  | nil => rfl
  | cons t S ih =>
    unfold drops
    by_cases hv : v ≤ rd l (t : Int)
    · rw [if_pos hv, if_pos ((h t (by simp)).1 hv)]
      exact ih (fun x hx => h x (by simp [hx]))
    · rw [if_neg hv, if_neg (fun hq => hv ((h t (by simp)).2 hq))]
theorem stk_congr (l m : List Int) (n : Nat) (h : ∀ i j, i < n → j < n → ((rd l (i : Int) ≤ rd l (j : Int)) ↔ (rd m (i : Int) ≤ rd m (j : Int)))) : ∀ i, i ≤ n → stk l i = stk m i
  | 0, _ => rfl
  | i + 1, hi => by
    have ih := stk_congr l m n h i (by omega)
    have hlt := ((stk_ch l i).lt i (by cases i <;> simp)).1
    unfold stk
    rw [← ih, drops_congr l m _ _ (stk l i) (fun t ht => h i t (by omega) (by have := hlt t ht; omega))]
theorem dep_congr (l m : List Int) (n : Nat) (h : ∀ i j, i < n → j < n → ((rd l (i : Int) ≤ rd l (j : Int)) ↔ (rd m (i : Int) ≤ rd m (j : Int)))) (i : Nat) (hi : i < n) : dep l i = dep m i := by
  have e := stk_congr l m n h (i + 1) (by omega)
  have := congrArg List.length e
  rw [stk_length, stk_length] at this
  omega
def secs (l : List Int) (i : Nat) : List S47 := (List.range i).map fun (j : Nat) => (⟨(j : Int), (dep l j : Int)⟩ : S47)
theorem secs_succ (l : List Int) (i : Nat) : secs l (i + 1) = secs l i ++ [⟨(i : Int), (dep l i : Int)⟩] := by
  unfold secs
  rw [List.range_succ, List.map_append]
  rfl
theorem secs_length (l : List Int) (i : Nat) : (secs l i).length = i := by simp [secs]
theorem secs_rd (l : List Int) (n i : Nat) (hi : i < n) : rd_T47 (secs l n) (i : Int) = ⟨(i : Int), (dep l i : Int)⟩ := by
  unfold rd_T47 secs
  rw [Int.toNat_natCast, List.getD_eq_getElem?_getD, List.getElem?_map, List.getElem?_range hi]
  rfl
def ints (S : List Nat) : List Int := (S.map fun (x : Nat) => (x : Int)).reverse
theorem ints_length (S : List Nat) : (ints S).length = S.length := by simp [ints]
theorem ints_cons (t : Nat) (S : List Nat) : ints (t :: S) = ints S ++ [(t : Int)] := by simp [ints]
theorem pop_ev (l : List Int) (_hl : l.length ≤ 4000) (out : List S47) (i : Nat) (v : Int) (r : List S47) (ho : out.length ≤ 4000) (S : List Nat) : S.length ≤ 4000 → (∀ x ∈ S, x < l.length) →
    Ev (fun k => outline_Sections.l0 k l (out ++ [⟨(i : Int), ((drops l v S).length : Int)⟩]) (ints (drops l v S) ++ [(i : Int)]) l (l.length : Int) (wrap64 ((i : Int) + 1))) r →
    Ev (fun k => outline_Sections.l1 k l out (ints S) (i : Int) v l (l.length : Int) (i : Int)) r := by
  induction S with
  | nil =>
    intro hS hx h
    refine Ev.step (fun k => ?_) h
    simp only [outline_Sections.l1]
    rw [if_neg (by simp [ints]), if_pos (by omega), if_pos (by simp [ints])]
    rfl
  | cons t S ih =>
    intro hS hx h
    have hlen : (ints (t :: S)).length = S.length + 1 := by rw [ints_length]; rfl
    have hS' : S.length + 1 ≤ 4000 := hS
    have hw : wrap64 (((ints (t :: S)).length : Int) - 1) = (S.length : Int) := by rw [hlen, w64 (by omega) (by omega)]; omega
    have hr : rd (ints (t :: S)) (S.length : Int) = (t : Int) := by
      unfold rd
      rw [ints_cons, Int.toNat_natCast, List.getD_eq_getElem?_getD, List.getElem?_append_right (by rw [ints_length]; exact Nat.le_refl _), ints_length, Nat.sub_self]
      rfl
    have ht := hx t (by simp)
    by_cases hv : v ≤ rd l (t : Int)
    · rw [drops_pos hv] at h
      refine Ev.step (fun k => ?_) (ih (by omega) (fun x hx' => hx x (by simp [hx'])) h)
      simp only [outline_Sections.l1]
      rw [hw, hr, if_pos (by omega), if_pos (by omega), if_pos (by omega), if_pos (by omega), if_pos (by omega), if_pos (by omega), if_pos (by omega), ints_cons, Int.toNat_natCast, List.take_left' (ints_length S)]
    · rw [drops_neg hv] at h
      refine Ev.step (fun k => ?_) h
      simp only [outline_Sections.l1]
      rw [hw, hr, if_pos (by omega), if_pos (by omega), if_pos (by omega), if_pos (by omega), if_pos (by omega), if_neg (by omega), if_pos (by omega), if_pos (by omega), hlen]
      rfl
theorem secs_ev (l : List Int) (hl : l.length ≤ 4000) : ∀ (d i : Nat), d + i = l.length → Ev (fun k => outline_Sections.l0 k l (secs l i) (ints (stk l i)) l (l.length : Int) (i : Int)) (secs l l.length) := by
  intro d
  induction d with
  | zero =>
    intro i hi
    refine Ev.step (fun k => ?_) (Ev.now _)
    simp only [outline_Sections.l0]
    rw [if_neg (by omega), show i = l.length by omega]
  | succ d ih =>
    intro i hi
    have hS := (stk_ch l i).lt i (by cases i <;> simp)
    have h := ih (i + 1) (by omega)
    rw [secs_succ] at h
    refine Ev.step (fun k => ?_) (pop_ev l hl (secs l i) i (rd l (i : Int)) _ (by rw [secs_length]; omega) (stk l i) (by omega) (fun x hx => by have := hS.1 x hx; omega) ?_)
    · simp only [outline_Sections.l0]
      rw [if_pos (by omega), if_pos (by omega), if_pos (by omega)]
    · have e : ints (stk l (i + 1)) = ints (drops l (rd l (i : Int)) (stk l i)) ++ [(i : Int)] := ints_cons _ _
      rw [w64 (by omega) (by omega), ← e]
      exact h
theorem sections_ev (l : List Int) (hl : l.length ≤ 4000) : Ev (fun k => outline_Sections.f k l) (secs l l.length) := by
  have h := secs_ev l hl l.length 0 (by omega)
  exact h
end Secs
end Go.Proofs.YtomdidopflebjaaGreatDoor.Pure
namespace Go.Proofs.YtomdidopflebjaaGreatDoor.Pure
open Go.RowKit Go.Proofs.YtomdidopflebjaaGreatDoor.PM Go.Proofs.YtomdidopflebjaaGreatDoorW.PrintWords Go.Proofs.YtomdidopflebjaaGreatDoorW.PrintLast
theorem i64_and20 (n : Int) : bits .and .i64 n 1048575 = n % 1048576 := by
  show IntKind.i64.wrap ((BitVec.ofInt 64 n &&& BitVec.ofInt 64 1048575).toNat : Int) = _
  have e : (BitVec.ofInt 64 n &&& BitVec.ofInt 64 1048575).toNat = (BitVec.ofInt 64 n).toNat % 2 ^ 20 := by
    rw [BitVec.toNat_and]
    exact Nat.and_two_pow_sub_one_eq_mod _ 20
  rw [e, IntKind.wrap_i64]
  have h2 : ((BitVec.ofInt 64 n).toNat : Int) = n % 18446744073709551616 := by
    rw [BitVec.toNat_ofInt]
    omega
  omega
def lowA (l : List Int) (i : Nat) : List Int := (l.take i).map fun x => x % 1048576
def lowB (l : List Int) (b : Int) (i : Nat) : List Int := (l.take i).map fun x => x % 1048576 + b
theorem take_map_rd (l : List Int) (f : Int → Int) (n i : Nat) (hi : i < n) (hn : n ≤ l.length) : rd ((l.take n).map f) (i : Int) = f (rd l (i : Int)) := by
  unfold rd
  rw [Int.toNat_natCast, List.getD_eq_getElem?_getD, List.getD_eq_getElem?_getD, List.getElem?_map, List.getElem?_take, if_pos hi, List.getElem?_eq_getElem (by omega)]
  rfl
theorem take_map_succ (l : List Int) (f : Int → Int) (i : Nat) (hi : i < l.length) : (l.take (i + 1)).map f = (l.take i).map f ++ [f (rd l (i : Int))] := by
  unfold rd
  rw [List.take_add_one, List.getElem?_eq_getElem hi, List.map_append, Int.toNat_natCast, List.getD_eq_getElem?_getD, List.getElem?_eq_getElem hi]
  rfl
theorem take_map_len (l : List Int) (f : Int → Int) (i : Nat) (hi : i ≤ l.length) : ((l.take i).map f).length = i := by
  rw [List.length_map, List.length_take]
  exact Nat.min_eq_left hi
theorem grows_check (A B : List Int) (n : Nat) (hn : n ≤ 2000) (hA : A.length = n) (hd : ∀ i, i < n → Secs.dep A i = Secs.dep B i) : ∀ (d i : Nat), d + i = n → ∃ K, ∀ k, K ≤ k → beadlelaw21_OutlineGrows.l1 k A (Secs.secs A n) (Secs.secs B n) (i : Int) = some true := by
  intro d
  induction d with
  | zero =>
    intro i hi
    refine ⟨1, fun k hk => ?_⟩
    obtain ⟨k, rfl⟩ : ∃ m, k = m + 1 := ⟨k - 1, by omega⟩
    simp only [beadlelaw21_OutlineGrows.l1]
    rw [if_neg (by rw [Secs.secs_length]; omega)]
  | succ d ih =>
    intro i hi
    obtain ⟨K, h⟩ := ih (i + 1) (by omega)
    refine ⟨K + 1, fun k hk => ?_⟩
    obtain ⟨k, rfl⟩ : ∃ m, k = m + 1 := ⟨k - 1, by omega⟩
    have hw : wrap64 ((i : Int) + 1) = ((i + 1 : Nat) : Int) := by unfold wrap64; omega
    have hstep := h k (by omega)
    simp only [beadlelaw21_OutlineGrows.l1]
    rw [if_pos (by rw [Secs.secs_length]; omega), if_pos (by omega), if_pos (by rw [Secs.secs_length]; omega), Secs.secs_rd A n i (by omega), Secs.secs_rd B n i (by omega), hd i (by omega), if_neg (by simp)]
    cases i with
    | zero =>
      rw [if_pos (show ((0 : Nat) : Int) = 0 from rfl), if_pos (show (Secs.dep B 0 : Int) = 0 from rfl), if_neg (by omega), hw]
      exact hstep
    | succ j =>
      have hw1 : wrap64 (((j + 1 : Nat) : Int) - 1) = (j : Int) := by unfold wrap64; omega
      have hle := (Secs.dep_Dp A j).le
      have hw2 : wrap64 ((Secs.dep A j : Int) + 1) = (Secs.dep A j : Int) + 1 := by unfold wrap64; omega
      rw [if_neg (by omega), if_pos (by omega), hw1, if_pos (by omega), if_pos (by rw [Secs.secs_length]; omega), Secs.secs_rd A n j (by omega), hw2, ← hd (j + 1) (by omega)]
      dsimp only
      rcases Secs.dep_step A j with ⟨e1, e2⟩ | ⟨e1, e2⟩
      · rw [if_neg (by omega), if_pos (by omega), if_pos (by omega), if_neg (by rw [decide_eq_true (by omega : (Secs.dep A (j + 1) : Int) > (Secs.dep A j : Int)), decide_eq_true (by omega : rd A ((j + 1 : Nat) : Int) > rd A (j : Int))]; decide), hw]
        exact hstep
      · rw [if_neg (by omega), if_pos (by omega), if_pos (by omega), if_neg (by rw [decide_eq_false (by omega : ¬ (Secs.dep A (j + 1) : Int) > (Secs.dep A j : Int)), decide_eq_false (by omega : ¬ rd A ((j + 1 : Nat) : Int) > rd A (j : Int))]; decide), hw]
        exact hstep
theorem grows_loop (l : List Int) (b : Int) (hl : l.length ≤ 2000) (hb0 : 0 ≤ b) (hb1 : b < 1048576) : ∀ (d i : Nat), d + i = l.length → ∃ K, ∀ k, K ≤ k → beadlelaw21_OutlineGrows.l0 k l b (lowA l i) (lowB l b i) (i : Int) = some true := by
  intro d
  induction d with
  | zero =>
    intro i hi
    have hi' : i = l.length := by omega
    have hA : (lowA l i).length = l.length := by rw [hi']; exact take_map_len l _ _ (Nat.le_refl _)
    have hB : (lowB l b i).length = l.length := by rw [hi']; exact take_map_len l _ _ (Nat.le_refl _)
    obtain ⟨K1, h1⟩ := Secs.sections_ev (lowA l i) (by omega)
    obtain ⟨K2, h2⟩ := Secs.sections_ev (lowB l b i) (by omega)
    rw [hA] at h1
    rw [hB] at h2
    have hd : ∀ j, j < l.length → Secs.dep (lowA l i) j = Secs.dep (lowB l b i) j := fun j hj => Secs.dep_congr _ _ l.length (fun p q hp hq => by
      rw [show rd (lowA l i) (p : Int) = rd l (p : Int) % 1048576 from take_map_rd l _ i p (by omega) (by omega), show rd (lowA l i) (q : Int) = rd l (q : Int) % 1048576 from take_map_rd l _ i q (by omega) (by omega), show rd (lowB l b i) (p : Int) = rd l (p : Int) % 1048576 + b from take_map_rd l _ i p (by omega) (by omega), show rd (lowB l b i) (q : Int) = rd l (q : Int) % 1048576 + b from take_map_rd l _ i q (by omega) (by omega)]
      omega) j hj
    obtain ⟨K3, h3⟩ := grows_check (lowA l i) (lowB l b i) l.length hl hA hd l.length 0 (by omega)
    refine ⟨K1 + K2 + K3 + 2, fun k hk => ?_⟩
    obtain ⟨k, rfl⟩ : ∃ m, k = m + 2 := ⟨k - 2, by omega⟩
    have h1' : outline_Sections.f (k + 1) (lowA l i) = some (Secs.secs (lowA l i) l.length) := h1 _ (by omega)
    have h2' : outline_Sections.f (k + 1) (lowB l b i) = some (Secs.secs (lowB l b i) l.length) := h2 _ (by omega)
    rw [beadlelaw21_OutlineGrows.l0]
    rw [if_neg (by omega), h1']
    simp only [Option.bind_some]
    rw [h2']
    simp only [Option.bind_some]
    rw [if_pos (by rw [Secs.secs_length, hA]), Secs.secs_length, hA, beadlelaw21_OutlineGrows.j1, if_neg (by simp)]
    exact h3 k (by omega)
  | succ d ih =>
    intro i hi
    obtain ⟨K, h⟩ := ih (i + 1) (by omega)
    refine ⟨K + 1, fun k hk => ?_⟩
    obtain ⟨k, rfl⟩ : ∃ m, k = m + 1 := ⟨k - 1, by omega⟩
    have hstep := h k (by omega)
    have hw : wrap64 ((i : Int) + 1) = ((i + 1 : Nat) : Int) := by unfold wrap64; omega
    have hA : (lowA l i).length = i := take_map_len l _ _ (by omega)
    have hB : (lowB l b i).length = i := take_map_len l _ _ (by omega)
    have eA : lowA l i ++ [rd l (i : Int) % 1048576] = lowA l (i + 1) := (take_map_succ l (fun x => x % 1048576) i (by omega)).symm
    have eB : lowB l b i ++ [rd l (i : Int) % 1048576 + b] = lowB l b (i + 1) := (take_map_succ l (fun x => x % 1048576 + b) i (by omega)).symm
    have hA1 : (lowA l (i + 1)).length = i + 1 := take_map_len l _ _ (by omega)
    have hr : rd (lowA l (i + 1)) (i : Int) = rd l (i : Int) % 1048576 := take_map_rd l _ (i + 1) i (by omega) (by omega)
    have hwb : wrap64 (rd l (i : Int) % 1048576 + b) = rd l (i : Int) % 1048576 + b := by unfold wrap64; omega
    rw [beadlelaw21_OutlineGrows.l0]
    rw [if_pos (by omega), if_pos (by omega), if_pos (by omega), show Go.bits .and .i64 (rd l (i : Int)) 1048575 = rd l (i : Int) % 1048576 from i64_and20 _, eA]
    simp only [Option.bind_some]
    rw [if_pos (by omega), if_pos (by omega), hr, hwb, eB, hw]
    exact hstep
theorem OutlineGrows : beadlelaw21_OutlineGrows.Ask := by
  intro l0 a1 _ _ _
  obtain ⟨K1, h1⟩ := speaks_ev
  by_cases hl : (l0.length : Int) > 2000
  · refine ⟨K1, ?_⟩
    unfold beadlelaw21_OutlineGrows.f
    rw [h1 K1 (Nat.le_refl _)]
    simp only [Option.bind_some]
    rw [if_pos trivial, if_pos hl]
  · obtain ⟨K3, h3⟩ := grows_loop l0 (a1 % 1048576) (by omega) (by omega) (by omega) l0.length 0 (by omega)
    refine ⟨K1 + K3, ?_⟩
    unfold beadlelaw21_OutlineGrows.f
    rw [h1 _ (by omega)]
    simp only [Option.bind_some]
    rw [if_pos trivial, if_neg hl, show Go.bits .and .i64 a1 1048575 = a1 % 1048576 from i64_and20 _]
    exact h3 _ (by omega)
end Go.Proofs.YtomdidopflebjaaGreatDoor.Pure
