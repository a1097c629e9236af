/- What the contracts ask of the world: its shape; kept wherever what was there is kept. -/
import Derived.Test.YtmafnkjplnckoaaDoorRows
import Derived.Test.YtmafnkjplnckoaaDoorShelf
import Derived.ChangeAgain
import Derived.LaidHandle
import Derived.MakeChecks
import Derived.Below
namespace Go.Proofs.YtmafnkjplnckoaaDoor.Glob
open Go.RowKit

structure GW (w : World) : Prop where
  shaped : w.ShapedOpen Tryd.prog
theorem GW.below {w w' : World} (h : GW w) (hb : Below w.heap.size w w') : GW w' := ⟨h.shaped.keptBut (hb.frame (fun _ => False)) (fun _ hp => hp.elim)⟩
theorem GW.alloc {w : World} (h : GW w) (o : Obj) : GW (w.alloc o) := h.below ((Below.refl _ _).alloc (Nat.le_refl _) o)
theorem GW.drewN {w : World} (h : GW w) (n : Nat) : GW (w.drewN n) := h.below ⟨rfl, rfl, rfl, Nat.le_refl _, fun _ _ => rfl⟩
theorem GW.drew {w : World} (h : GW w) : GW w.drew := h.below (Go.RowKit.Below.drew (Below.refl _ _))
theorem gw_ofSniffCharsets {W : World} (_ : laidMetH Tryd.prog Rows.sniffCharsetsUptoRow.laid W) (hsh : W.ShapedOpen Tryd.prog) : GW W := ⟨hsh⟩
end Go.Proofs.YtmafnkjplnckoaaDoor.Glob
