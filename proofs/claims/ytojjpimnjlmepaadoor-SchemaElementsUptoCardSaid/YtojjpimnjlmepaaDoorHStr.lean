/- strings.Cut, in the print's form. -/
import Derived.Test.YtojjpimnjlmepaaDoorPMx0
import Derived.Test.YtojjpimnjlmepaaDoorGlob
namespace Go.Proofs.YtojjpimnjlmepaaDoor.PM
open Go.RowKit Go.Lib Go.Proofs.YtojjpimnjlmepaaDoor.Glob Go.Proofs.YtojjpimnjlmepaaDoorW.PrintWords
def strings_Cut.f (a0 a1 : ByteArray) : Option (ByteArray × ByteArray × Bool) := if a0.size < 4294967281 then some (⟨(Lib.cut a0.data.toList a1.data.toList).1.toArray⟩, ⟨(Lib.cut a0.data.toList a1.data.toList).2.1.toArray⟩, (Lib.cut a0.data.toList a1.data.toList).2.2) else none
theorem strings_Cut.calls (a0 a1 : ByteArray) (r1 r2 : ByteArray) (r3 : Bool) (w : World) (hG : GW w) (h : strings_Cut.f a0 a1 = some (r1, r2, r3)) : Calls Tryd.prog 33 #[.string a0, .string a1] w fun e w' => e = .returned (.tuple #[.string r1, .string r2, .bool r3]) ∧ Below w.heap.size w w' := by
  unfold strings_Cut.f at h
  split at h
  · rename_i hc
    cases h
    refine (Tryd.strings_Cut_shaped a0 a1 w hG.shaped hc).mono ?_
    rintro e w' ⟨rfl, n, rfl⟩
    exact ⟨rfl, rfl, rfl, rfl, Nat.le_refl _, fun _ _ => rfl⟩
  · cases h
end Go.Proofs.YtojjpimnjlmepaaDoor.PM
