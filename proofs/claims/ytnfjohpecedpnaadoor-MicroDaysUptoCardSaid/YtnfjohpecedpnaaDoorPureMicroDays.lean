/- MicroDays in plain words: twelve months of any year, and of the year four hundred on, have as many days. -/
import Derived.Test.YtnfjohpecedpnaaDoorPMx6
import Derived.Test.YtnfjohpecedpnaaDoorAskMicroDays
namespace Go.Proofs.YtnfjohpecedpnaaDoor.Pure
open Go.RowKit Go.Proofs.YtnfjohpecedpnaaDoor.PM Go.Proofs.YtnfjohpecedpnaaDoorW.PrintWords Go.Proofs.YtnfjohpecedpnaaDoorW.PrintLast
theorem speaks_true : beadlelaw18_speaks.f = some true := by decide +kernel
theorem w64 {n : Int} (h0 : -9223372036854775808 ≤ n) (h1 : n ≤ 9223372036854775807) : wrap64 n = n := by unfold wrap64; omega
theorem days_not2 {y m : Int} (h : 1 ≤ y) (h1 : 1 ≤ m) (h2 : m ≤ 12) (h3 : m ≠ 2) : daysOf y m = mdays m := by
  unfold daysOf
  rw [if_neg (by omega), if_neg (by omega), if_neg (by omega), if_neg h3]
theorem days_2 {y : Int} (h : 1 ≤ y) : daysOf y 2 = if y % 4 = 0 ∧ (y % 100 ≠ 0 ∨ y % 400 = 0) then 29 else 28 := by
  unfold daysOf
  rw [if_neg (by omega), if_neg (by omega), if_neg (by omega), if_pos rfl]
theorem days_400 {y : Int} (h : 1 ≤ y) : daysOf (y + 400) 2 = daysOf y 2 := by
  rw [days_2 h, days_2 (by omega)]
  have e1 : (y + 400) % 4 = y % 4 := by omega
  have e2 : (y + 400) % 100 = y % 100 := by omega
  have e3 : (y + 400) % 400 = y % 400 := by omega
  rw [e1, e2, e3]
theorem row_ok (y : Int) (h1 : 1 ≤ y) (h2 : y ≤ 9999) : beadlelaw18_MicroDays.l0 13 y 0 0 1 = some true := by
  have hw : wrap64 (y + 400) = y + 400 := w64 (by omega) (by omega)
  have h0 : daysOf y 0 = 0 := by unfold daysOf; rw [if_neg (by omega), if_pos (by omega)]
  have h13 : daysOf y 13 = 0 := by unfold daysOf; rw [if_neg (by omega), if_neg (by omega), if_pos (by omega)]
  have hz : daysOf 0 1 = 0 := by decide
  have hb : daysOf y 2 = 28 ∨ daysOf y 2 = 29 := by rw [days_2 h1]; split <;> simp
  have h4 := days_400 h1
  have hy : ∀ m, 1 ≤ m → m ≤ 12 → m ≠ 2 → daysOf y m = mdays m := fun m a b c => days_not2 h1 a b c
  have hy4 : ∀ m, 1 ≤ m → m ≤ 12 → m ≠ 2 → daysOf (y + 400) m = mdays m := fun m a b c => days_not2 (by omega) a b c
  have w : ∀ n : Int, -9223372036854775808 ≤ n → n ≤ 9223372036854775807 → wrap64 n = n := fun n a b => w64 a b
  simp only [beadlelaw18_MicroDays.l0, micro_Days.f, Option.bind_some, hw, h0, h13, hz]
  have m1 : mdays 1 = 31 := by decide
  have m3 : mdays 3 = 31 := by decide
  have m4 : mdays 4 = 30 := by decide
  have m5 : mdays 5 = 31 := by decide
  have m6 : mdays 6 = 30 := by decide
  have m7 : mdays 7 = 31 := by decide
  have m8 : mdays 8 = 31 := by decide
  have m9 : mdays 9 = 30 := by decide
  have m10 : mdays 10 = 31 := by decide
  have m11 : mdays 11 = 30 := by decide
  have m12 : mdays 12 = 31 := by decide
  rcases hb with hb | hb
  all_goals
    rw [hb] at h4
    simp (disch := omega) [hb, h4, hy, hy4, w, m1, m3, m4, m5, m6, m7, m8, m9, m10, m11, m12]
theorem MicroDays : beadlelaw18_MicroDays.Ask := by
  intro a0 _ _
  refine ⟨15, ?_⟩
  unfold beadlelaw18_MicroDays.f
  rw [speaks_true, Option.bind_some, if_pos rfl]
  by_cases h1 : a0 < 1
  · rw [if_pos h1, beadlelaw18_MicroDays.j0, if_pos rfl, beadlelaw18_MicroDays.j1]
    exact row_ok 1900 (by decide) (by decide)
  · rw [if_neg h1, beadlelaw18_MicroDays.j0]
    by_cases h2 : a0 > 9999
    · rw [if_pos (decide_eq_true h2), beadlelaw18_MicroDays.j1]
      exact row_ok 1900 (by decide) (by decide)
    · rw [if_neg (by simpa using h2), beadlelaw18_MicroDays.j1]
      exact row_ok a0 (by omega) (by omega)
end Go.Proofs.YtnfjohpecedpnaaDoor.Pure
