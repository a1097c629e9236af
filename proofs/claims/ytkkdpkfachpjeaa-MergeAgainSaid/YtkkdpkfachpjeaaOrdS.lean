/- The order in which what is wrong is told: the program's comparison at any two is the reference's. No condition. -/
import Derived.Test.YtkkdpkfachpjeaaPSx0
import Derived.Test.YtkkdpkfachpjeaaPSx2
import Derived.Test.YtkkdpkfachpjeaaPSx3
import Derived.Test.YtkkdpkfachpjeaaPSx4
import Derived.Lib.Bytealg
namespace Go.Proofs.Ytkkdpkfachpjeaa.OrdS
open Go.RowKit Go.Proofs.Ytkkdpkfachpjeaa.PS Go.Proofs.YtkkdpkfachpjeaaW.PrintWords Go.Proofs.YtkkdpkfachpjeaaW.PrintLast

theorem bl (s : ByteArray) : s.toList = s.data.toList := by
  exact ByteArray.toList_eq s

/-- Which of two lists of bytes is less. -/
theorem cb_cases : ∀ a b : List UInt8, (Lib.compareBytes a b = -1 ∧ Op.bytesLess a b = true ∧ Op.bytesLess b a = false ∧ a ≠ b) ∨ (Lib.compareBytes a b = 0 ∧ Op.bytesLess a b = false ∧ Op.bytesLess b a = false ∧ a = b) ∨ (Lib.compareBytes a b = 1 ∧ Op.bytesLess a b = false ∧ Op.bytesLess b a = true ∧ a ≠ b)
  | [], [] => .inr (.inl ⟨rfl, rfl, rfl, rfl⟩)
  | [], _ :: _ => .inl ⟨rfl, rfl, rfl, by simp⟩
  | _ :: _, [] => .inr (.inr ⟨rfl, rfl, rfl, by simp⟩)
  | a :: x, b :: y => by
    simp only [Lib.compareBytes, Op.bytesLess]
    by_cases h1 : a < b
    · rw [if_pos h1]
      have h2 : ¬ b < a := UInt8.not_lt.2 (UInt8.le_of_lt h1)
      have h3 : ¬ a = b := fun h => UInt8.lt_irrefl _ (h ▸ h1)
      have h4 : ¬ b = a := fun h => h3 h.symm
      exact .inl ⟨rfl, by simp [h1], by simp [h2, h4], by simp [h3]⟩
    · by_cases h2 : b < a
      · rw [if_neg h1, if_pos h2]
        have h3 : ¬ a = b := fun h => UInt8.lt_irrefl _ (h ▸ h2)
        exact .inr (.inr ⟨rfl, by simp [h1, h3], by simp [h2], by simp [h3]⟩)
      · rw [if_neg h1, if_neg h2]
        obtain rfl : a = b := UInt8.le_antisymm (UInt8.not_lt.1 h2) (UInt8.not_lt.1 h1)
        rcases cb_cases x y with ⟨e1, e2, e3, e4⟩ | ⟨e1, e2, e3, e4⟩ | ⟨e1, e2, e3, e4⟩
        · exact .inl ⟨e1, by simp [e2], by simp [h1, e3], by simp [e4]⟩
        · exact .inr (.inl ⟨e1, by simp [h1, e2], by simp [h1, e3], by simp [e4]⟩)
        · exact .inr (.inr ⟨e1, by simp [h1, e2], by simp [e3], by simp [e4]⟩)

/-- The order: by place, by code, by node. -/
def dAhead (c a : Int) (s : List UInt8) (c' a' : Int) (s' : List UInt8) : Bool := if a = a' then (if c = c' then Op.bytesLess s s' else decide (c < c')) else decide (a < a')

theorem wrap_small (i : Int) (h0 : 0 ≤ i) (h1 : i ≤ 10) : wrap64 (i + 1) = i + 1 := by unfold wrap64; omega

theorem or3 (k : Nat) (x y z : Int) : cmp_Or_int.f (k + 4) [x, y, z] = some (if x = 0 then (if y = 0 then z else y) else x) := by
  unfold cmp_Or_int.f
  by_cases hx : x = 0
  · subst hx
    by_cases hy : y = 0
    · subst hy
      by_cases hz : z = 0
      · subst hz
        simp [cmp_Or_int.l0, rd, wrap64]
      · simp [cmp_Or_int.l0, rd, wrap64, hz]
    · simp [cmp_Or_int.l0, rd, wrap64, hy]
  · simp [cmp_Or_int.l0, rd, hx]

theorem compare_eq (k : Nat) (c a : Int) (s : ByteArray) (c' a' : Int) (s' : ByteArray) :
    merge_compare.f (k + 4) c a s c' a' s' = some (if a = a' then (if c = c' then Lib.compareBytes s.data.toList s'.data.toList else if c < c' then -1 else 1) else if a < a' then -1 else 1) := by
  have h1 : ∀ x y : Int, cmp_Compare_int.f x y = some (if x = y then 0 else if x < y then -1 else 1) := by
    intro x y
    unfold cmp_Compare_int.f cmp_isNaN_int.f
    by_cases e : x = y
    · subst e; simp
    · by_cases l : x < y
      · simp [e, l]
      · have g : y < x := by omega
        simp [e, l, g]
  have h2 : ∀ x y : Int, api_Code_30.f x y = some (if x = y then 0 else if x < y then -1 else 1) := by
    intro x y
    unfold api_Code_30.f api_Code_37.f
    by_cases e : x = y
    · subst e; simp
    · by_cases l : x < y
      · simp [e, l]
      · have g : y < x := by omega
        simp [e, l, g]
  unfold merge_compare.f strings_Compare.f
  rw [h1, h2]
  simp only [Option.bind_some, or3]
  by_cases e : a = a'
  · subst e
    by_cases e2 : c = c'
    · subst e2; simp
    · by_cases l : c < c'
      · simp [e2, l]
      · simp [e2, l]
  · by_cases l : a < a'
    · simp [e, l]
    · simp [e, l]

theorem ref_eq (c a : Int) (s : ByteArray) (c' a' : Int) (s' : ByteArray) : beadleref06_Ahead.f c a s c' a' s' = some (dAhead c a s.data.toList c' a' s'.data.toList) := by
  unfold beadleref06_Ahead.f dAhead
  rw [bl, bl]
  by_cases e : a = a' <;> by_cases e2 : c = c' <;> simp [e, e2]

end Go.Proofs.Ytkkdpkfachpjeaa.OrdS
