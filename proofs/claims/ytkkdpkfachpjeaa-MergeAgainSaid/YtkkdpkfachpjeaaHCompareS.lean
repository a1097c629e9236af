/- strings.Compare at any two strings: it returns the bytes' comparison and changes nothing. No condition. -/
import Derived.Test.YtkkdpkfachpjeaaPSx0
import Derived.Test.YtkkdpkfachpjeaaShelf
namespace Go.Proofs.Ytkkdpkfachpjeaa.PS
open Go.RowKit Go.Proofs.YtkkdpkfachpjeaaW.PrintWords Go.Proofs.YtkkdpkfachpjeaaW.PrintLast Go.Proofs.YtkkdpkfachpjeaaW.PrintMore

def strings_Compare.f (a0 a1 : ByteArray) : Option Int := some (Lib.compareBytes a0.data.toList a1.data.toList)
theorem strings_Compare.calls (a0 a1 : ByteArray) (r : Int) (w : World) (h : strings_Compare.f a0 a1 = some r) :
    Calls Try.prog 31 #[.string a0, .string a1] w fun e w' => e = .returned (.int .i64 r) ∧ Drawn0 w w' := by
  obtain rfl := Option.some.inj h
  exact (Try.strings_Compare a0 a1 w).mono fun e w' ⟨he, hw⟩ => ⟨he, hw ▸ Drawn0.refl w⟩

end Go.Proofs.Ytkkdpkfachpjeaa.PS
