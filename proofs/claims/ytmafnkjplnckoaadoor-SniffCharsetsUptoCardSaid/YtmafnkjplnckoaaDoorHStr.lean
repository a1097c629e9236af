/- strings.Trim at a cutset of ASCII bytes, in the print's form. -/
import Derived.Test.YtmafnkjplnckoaaDoorPLx0
import Derived.Test.YtmafnkjplnckoaaDoorShelf
import Derived.Shelf.Strings.SlTrimAscii
namespace Go.Proofs.YtmafnkjplnckoaaDoor.PL
open Go.RowKit Go.Lib
def asciiB (c : ByteArray) : Bool := c.data.toList.all fun b => decide (b.toNat < 128)
def strings_Trim.f (a0 a1 : ByteArray) : Option ByteArray := if asciiB a1 = true ∧ a1.size < 4294967281 ∧ a0.size ≤ 4000000000 then some ⟨(Lib.trimS a0.data.toList a1.data.toList).toArray⟩ else none
theorem strings_Trim.calls (a0 a1 : ByteArray) (r : ByteArray) (w : World) (h : strings_Trim.f a0 a1 = some r) : Calls Tryd.prog 10 #[.string a0, .string a1] w fun e w' => e = .returned (.string r) ∧ Below w.heap.size w w' := by
  unfold strings_Trim.f at h
  split at h
  · rename_i hc
    cases h
    exact Any.strings_Trim_laid Tryd.lays160 (by kernel_rfl) a0 a1 w (by omega) hc.2.1 (ascii_of_all hc.1)
  · cases h
end Go.Proofs.YtmafnkjplnckoaaDoor.PL
