/- strings.Fields at any text of the lower half, in the print's form. -/
import Derived.Test.YtojjpimnjlmepaaDoorHStr
set_option linter.unusedVariables false
namespace Go.Proofs.YtojjpimnjlmepaaDoor.PM
open Go.RowKit Go.Lib Go.Proofs.YtojjpimnjlmepaaDoor.Glob Go.Proofs.YtojjpimnjlmepaaDoorW.PrintWords
def strings_Fields.f (a0 : ByteArray) : Option (List ByteArray) := if a0.size < 4294967281 ∧ (Lib.fields a0.data.toList).length ≤ 1048576 ∧ a0.data.toList.all (fun b => decide (b.toNat < 128)) = true then some ((Lib.fields a0.data.toList).map fun l => (⟨l.toArray⟩ : ByteArray)) else none
theorem strings_Fields.calls (a0 : ByteArray) (r : List ByteArray) (w : World) (hG : GW w) (h : strings_Fields.f a0 = some r) : Calls Tryd.prog 20 #[.string a0] w fun e w' => ∃ v0_ : Value, e = .returned v0_ ∧ Kd.R Kd.string 9 w' w.heap.size (fun _ => True) v0_ r ∧ Below w.heap.size w w' := by
  unfold strings_Fields.f at h
  split at h
  case isFalse => cases h
  rename_i hc
  obtain ⟨hs, hl, ha⟩ := hc
  obtain rfl := Option.some.inj h
  refine (Tryd.strings_Fields a0 w hs (fun j b hj => of_decide_eq_true (List.all_eq_true.1 ha b (List.mem_of_getElem? hj))) hG.spc).mono ?_
  rintro e w' ⟨rfl, rfl⟩
  refine ⟨_, rfl, Kd.R_of_own ?_ (fun _ _ => trivial), (Below.refl _ _).alloc (Nat.le_refl _) _⟩
  have := World.ownsRow_lit (base := w.heap.size) (e := 9) (size := 1) w ((Lib.fields a0.data.toList).map fun l => Value.string ⟨l.toArray⟩).toArray (Lib.fields a0.data.toList).length (Nat.le_refl _) (by unfold maxLen; omega) (by simp)
  simpa [encs, Function.comp_def] using this
end Go.Proofs.YtojjpimnjlmepaaDoor.PM
