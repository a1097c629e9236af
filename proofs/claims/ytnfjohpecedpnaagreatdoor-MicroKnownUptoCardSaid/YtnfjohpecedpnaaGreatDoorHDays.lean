/- micro.Days at any two ints: the days of the month; it makes nothing. -/
import Derived.Test.YtnfjohpecedpnaaGreatDoorPMx0
import Derived.Outline
import Derived.IntWalk
import Derived.Deep.QuietTactic
import Derived.BigQuiet
namespace Go.Proofs.YtnfjohpecedpnaaGreatDoor.PM
open Go.RowKit Go.Proofs.YtnfjohpecedpnaaGreatDoorW.PrintWords Go.Proofs.YtnfjohpecedpnaaGreatDoorW.PrintLast Go.Proofs.YtnfjohpecedpnaaGreatDoorW.PrintMore

def mdays (m : Int) : Int := ([31, 28, 31, 30, 31, 30, 31, 31, 30, 31, 30, 31] : List Int).getD (m - 1).toNat 0
def daysOf (y m : Int) : Int := if y < 1 then 0 else if m < 1 then 0 else if m > 12 then 0 else if m = 2 then (if y % 4 = 0 ∧ (y % 100 ≠ 0 ∨ y % 400 = 0) then 29 else 28) else mdays m
def micro_Days.f (a0 a1 : Int) : Option Int := some (daysOf a0 a1)
abbrev tab : Value := .agg #[.int .i64 31, .int .i64 28, .int .i64 31, .int .i64 30, .int .i64 31, .int .i64 30, .int .i64 31, .int .i64 31, .int .i64 30, .int .i64 31, .int .i64 30, .int .i64 31]
theorem tab0 (w : World) : Sem.run Tryz.prog (Instr.index 49 tab (.int .i64 0)) w = .ok (.int .i64 31) w := by
  simp [Instr.index, asIntOf, tab, run_underlying Tryz.underlying49, go_sem, Tryz.sizeOf3, part, Tryz.isAgg3]
theorem tab1 (w : World) : Sem.run Tryz.prog (Instr.index 49 tab (.int .i64 1)) w = .ok (.int .i64 28) w := by
  simp [Instr.index, asIntOf, tab, run_underlying Tryz.underlying49, go_sem, Tryz.sizeOf3, part, Tryz.isAgg3]
theorem tab2 (w : World) : Sem.run Tryz.prog (Instr.index 49 tab (.int .i64 2)) w = .ok (.int .i64 31) w := by
  simp [Instr.index, asIntOf, tab, run_underlying Tryz.underlying49, go_sem, Tryz.sizeOf3, part, Tryz.isAgg3]
theorem tab3 (w : World) : Sem.run Tryz.prog (Instr.index 49 tab (.int .i64 3)) w = .ok (.int .i64 30) w := by
  simp [Instr.index, asIntOf, tab, run_underlying Tryz.underlying49, go_sem, Tryz.sizeOf3, part, Tryz.isAgg3]
theorem tab4 (w : World) : Sem.run Tryz.prog (Instr.index 49 tab (.int .i64 4)) w = .ok (.int .i64 31) w := by
  simp [Instr.index, asIntOf, tab, run_underlying Tryz.underlying49, go_sem, Tryz.sizeOf3, part, Tryz.isAgg3]
theorem tab5 (w : World) : Sem.run Tryz.prog (Instr.index 49 tab (.int .i64 5)) w = .ok (.int .i64 30) w := by
  simp [Instr.index, asIntOf, tab, run_underlying Tryz.underlying49, go_sem, Tryz.sizeOf3, part, Tryz.isAgg3]
theorem tab6 (w : World) : Sem.run Tryz.prog (Instr.index 49 tab (.int .i64 6)) w = .ok (.int .i64 31) w := by
  simp [Instr.index, asIntOf, tab, run_underlying Tryz.underlying49, go_sem, Tryz.sizeOf3, part, Tryz.isAgg3]
theorem tab7 (w : World) : Sem.run Tryz.prog (Instr.index 49 tab (.int .i64 7)) w = .ok (.int .i64 31) w := by
  simp [Instr.index, asIntOf, tab, run_underlying Tryz.underlying49, go_sem, Tryz.sizeOf3, part, Tryz.isAgg3]
theorem tab8 (w : World) : Sem.run Tryz.prog (Instr.index 49 tab (.int .i64 8)) w = .ok (.int .i64 30) w := by
  simp [Instr.index, asIntOf, tab, run_underlying Tryz.underlying49, go_sem, Tryz.sizeOf3, part, Tryz.isAgg3]
theorem tab9 (w : World) : Sem.run Tryz.prog (Instr.index 49 tab (.int .i64 9)) w = .ok (.int .i64 31) w := by
  simp [Instr.index, asIntOf, tab, run_underlying Tryz.underlying49, go_sem, Tryz.sizeOf3, part, Tryz.isAgg3]
theorem tab10 (w : World) : Sem.run Tryz.prog (Instr.index 49 tab (.int .i64 10)) w = .ok (.int .i64 30) w := by
  simp [Instr.index, asIntOf, tab, run_underlying Tryz.underlying49, go_sem, Tryz.sizeOf3, part, Tryz.isAgg3]
theorem tab11 (w : World) : Sem.run Tryz.prog (Instr.index 49 tab (.int .i64 11)) w = .ok (.int .i64 31) w := by
  simp [Instr.index, asIntOf, tab, run_underlying Tryz.underlying49, go_sem, Tryz.sizeOf3, part, Tryz.isAgg3]
theorem ret_int {a b : Int} (h : a = b) : Ending.returned (.int .i64 a) = .returned (.int .i64 b) := by rw [h]
set_option maxRecDepth 100000 in
set_option maxHeartbeats 4000000 in
theorem days_walk (y m : Int) (w : World) : Calls Tryz.prog 11 #[.int .i64 y, .int .i64 m] w fun e w' => e = .returned (.int .i64 (daysOf y m)) ∧ Below w.heap.size w w' := by
  obtain ⟨r, hr⟩ : ∃ r, r = daysOf y m := ⟨_, rfl⟩
  rw [← hr]
  have HR := Aside0.mk hr
  clear hr
  by_cases h1 : y < 1
  · have d1 := decide_eq_true h1
    have H1 := Aside0.mk h1
    go_enter Tryz.func11, Tryz.ntmps11
    go_wp2
    go_ret
    refine ⟨ret_int ?_, Below.refl _ _⟩
    rw [HR.out, daysOf, if_pos H1.out]
  · have d1 := decide_eq_false h1
    have H1 : Aside0 (¬ y < 1) := ⟨h1⟩
    by_cases h2 : m < 1
    · have d2 := decide_eq_true h2
      have H2 := Aside0.mk h2
      go_enter Tryz.func11, Tryz.ntmps11
      go_wp2
      go_ret
      refine ⟨ret_int ?_, Below.refl _ _⟩
      rw [HR.out, daysOf, if_neg (show ¬ y < 1 by have := H1.out; omega), if_pos H2.out]
    · have d2 := decide_eq_false h2
      have H2 : Aside0 (¬ m < 1) := ⟨h2⟩
      by_cases h3 : m > 12
      · have d3 := decide_eq_true h3
        have H3 := Aside0.mk h3
        go_enter Tryz.func11, Tryz.ntmps11
        go_wp2
        go_ret
        refine ⟨ret_int ?_, Below.refl _ _⟩
        rw [HR.out, daysOf, if_neg (show ¬ y < 1 by have := H1.out; omega), if_neg (show ¬ m < 1 by have := H2.out; omega), if_pos H3.out]
      · have d3 := decide_eq_false h3
        have H3 : Aside0 (¬ m > 12) := ⟨h3⟩
        have hm : m = 1 ∨ m = 2 ∨ m = 3 ∨ m = 4 ∨ m = 5 ∨ m = 6 ∨ m = 7 ∨ m = 8 ∨ m = 9 ∨ m = 10 ∨ m = 11 ∨ m = 12 := by omega
        clear h2 h3 d2 d3
        rcases hm with rfl | rfl | rfl | rfl | rfl | rfl | rfl | rfl | rfl | rfl | rfl | rfl
        · have hix := tab0
          go_enter Tryz.func11, Tryz.ntmps11
          go_wp2
          go_ret
          refine ⟨ret_int ?_, Below.refl _ _⟩
          rw [HR.out, daysOf, if_neg (show ¬ y < 1 by have := H1.out; omega)]
          rfl
        · have hix := tab1
          go_enter Tryz.func11, Tryz.ntmps11
          go_wp2
          all_goals
            go_ret
            refine ⟨ret_int ?_, Below.refl _ _⟩
            rw [HR.out, daysOf, if_neg (show ¬ y < 1 by have := H1.out; omega), if_neg (by decide), if_neg (by decide), if_pos rfl]
            simp only [beq_iff_eq, beq_eq_false_iff_ne, ne_eq] at *
            split <;> omega
        · have hix := tab2
          go_enter Tryz.func11, Tryz.ntmps11
          go_wp2
          go_ret
          refine ⟨ret_int ?_, Below.refl _ _⟩
          rw [HR.out, daysOf, if_neg (show ¬ y < 1 by have := H1.out; omega)]
          rfl
        · have hix := tab3
          go_enter Tryz.func11, Tryz.ntmps11
          go_wp2
          go_ret
          refine ⟨ret_int ?_, Below.refl _ _⟩
          rw [HR.out, daysOf, if_neg (show ¬ y < 1 by have := H1.out; omega)]
          rfl
        · have hix := tab4
          go_enter Tryz.func11, Tryz.ntmps11
          go_wp2
          go_ret
          refine ⟨ret_int ?_, Below.refl _ _⟩
          rw [HR.out, daysOf, if_neg (show ¬ y < 1 by have := H1.out; omega)]
          rfl
        · have hix := tab5
          go_enter Tryz.func11, Tryz.ntmps11
          go_wp2
          go_ret
          refine ⟨ret_int ?_, Below.refl _ _⟩
          rw [HR.out, daysOf, if_neg (show ¬ y < 1 by have := H1.out; omega)]
          rfl
        · have hix := tab6
          go_enter Tryz.func11, Tryz.ntmps11
          go_wp2
          go_ret
          refine ⟨ret_int ?_, Below.refl _ _⟩
          rw [HR.out, daysOf, if_neg (show ¬ y < 1 by have := H1.out; omega)]
          rfl
        · have hix := tab7
          go_enter Tryz.func11, Tryz.ntmps11
          go_wp2
          go_ret
          refine ⟨ret_int ?_, Below.refl _ _⟩
          rw [HR.out, daysOf, if_neg (show ¬ y < 1 by have := H1.out; omega)]
          rfl
        · have hix := tab8
          go_enter Tryz.func11, Tryz.ntmps11
          go_wp2
          go_ret
          refine ⟨ret_int ?_, Below.refl _ _⟩
          rw [HR.out, daysOf, if_neg (show ¬ y < 1 by have := H1.out; omega)]
          rfl
        · have hix := tab9
          go_enter Tryz.func11, Tryz.ntmps11
          go_wp2
          go_ret
          refine ⟨ret_int ?_, Below.refl _ _⟩
          rw [HR.out, daysOf, if_neg (show ¬ y < 1 by have := H1.out; omega)]
          rfl
        · have hix := tab10
          go_enter Tryz.func11, Tryz.ntmps11
          go_wp2
          go_ret
          refine ⟨ret_int ?_, Below.refl _ _⟩
          rw [HR.out, daysOf, if_neg (show ¬ y < 1 by have := H1.out; omega)]
          rfl
        · have hix := tab11
          go_enter Tryz.func11, Tryz.ntmps11
          go_wp2
          go_ret
          refine ⟨ret_int ?_, Below.refl _ _⟩
          rw [HR.out, daysOf, if_neg (show ¬ y < 1 by have := H1.out; omega)]
          rfl
theorem micro_Days.calls (a0 a1 : Int) (r : Int) (w : World) (h : micro_Days.f a0 a1 = some r) : Calls Tryz.prog 11 #[.int .i64 a0, .int .i64 a1] w fun e w' => e = .returned (.int .i64 r) ∧ Below w.heap.size w w' := by
  obtain rfl := Option.some.inj h
  exact days_walk a0 a1 w
end Go.Proofs.YtnfjohpecedpnaaGreatDoor.PM
