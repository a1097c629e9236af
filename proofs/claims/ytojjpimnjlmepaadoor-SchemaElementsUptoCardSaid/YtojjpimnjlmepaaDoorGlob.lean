/- What the contracts ask of package-level variables: the world's shape, the table of blanks of package strings; kept wherever what was there is kept; had from the rows' lists. -/
import Derived.Test.YtojjpimnjlmepaaDoorRows
import Derived.Test.YtojjpimnjlmepaaDoorShelf
import Derived.WalkSmall
import Derived.Lib.LaidTab
import Derived.LaidHandle
import Derived.MakeChecks
import Derived.Below
import Derived.ChangeAgain
import Derived.Stop.LaidErr
namespace Go.Proofs.YtojjpimnjlmepaaDoor.Glob
open Go.RowKit
structure GW (w : World) : Prop where
  shaped : w.ShapedOpen Tryd.prog
  spc : Lib.TabIs Tryd.prog w "strings.asciiSpace" .u8 Lib.asciiSpaceTab
theorem gSpc : Tryd.prog.globalNamed "strings.asciiSpace" = some 0 := by kernel_rfl
theorem spc_below {w w' : World} (h : Lib.TabIs Tryd.prog w "strings.asciiSpace" .u8 Lib.asciiSpaceTab) (hb : Below w.heap.size w w') : Lib.TabIs Tryd.prog w' "strings.asciiSpace" .u8 Lib.asciiSpaceTab := by
  refine var?_below hb gSpc ?_ h
  unfold Lib.TabIs World.var? at h
  rw [gSpc] at h
  simp only [Option.bind_some] at h
  apply Decidable.byContradiction
  intro hn
  rw [Array.getElem?_eq_none (by omega)] at h
  cases h
theorem GW.below {w w' : World} (h : GW w) (hb : Below w.heap.size w w') : GW w' :=
  ⟨h.shaped.keptBut (hb.frame (fun _ => False)) (fun _ hp => hp.elim), spc_below h.spc hb⟩
theorem GW.alloc {w : World} (h : GW w) (o : Obj) : GW (w.alloc o) := h.below ((Below.refl _ _).alloc (Nat.le_refl _) o)
theorem GW.drewN {w : World} (h : GW w) (n : Nat) : GW (w.drewN n) := h.below ⟨rfl, rfl, rfl, Nat.le_refl _, fun _ _ => rfl⟩
theorem GW.drew {w : World} (h : GW w) : GW w.drew := h.below (Go.RowKit.Below.drew (Below.refl _ _))
theorem tSpc : (Tryd.prog.globals[0]?).map (·.type) = some 65 := by kernel_rfl
theorem cellsT : Tryd.prog.cellsOf 65 = 256 := by kernel_rfl
theorem cells5 : Tryd.prog.cellsOf 5 = 1 := by kernel_rfl
theorem spcData : (Rows.laid_strings_asciiSpace : DataW Unit) = Lib.tabData .u8 Lib.asciiSpaceTab := by kernel_rfl
theorem gw_of {W : World} (h : laidMet Tryd.prog Rows.schemaAttributesRow.laid W) (hsh : W.ShapedOpen Tryd.prog) : GW W := by
  have h8 : laidMet Tryd.prog [("strings.asciiSpace", Rows.laid_strings_asciiSpace)] W := laidMet.tail h
  rw [spcData] at h8
  exact ⟨hsh, Lib.tabIs_of_head gSpc tSpc Tryd.underlying65 Tryd.underlying5 cells5 cellsT h8⟩
theorem gw_ofSchemaAttributes {W : World} (hL : laidMetH Tryd.prog Rows.schemaAttributesUptoRow.laid W) (hsh : W.ShapedOpen Tryd.prog) : GW W := by
  rw [MakeChecks.laidMetH_plain _ _ _ (by kernel_rfl)] at hL
  exact gw_of hL hsh
theorem gw_ofSchemaElements {W : World} (hL : laidMetH Tryd.prog Rows.schemaElementsUptoRow.laid W) (hsh : W.ShapedOpen Tryd.prog) : GW W := by
  rw [MakeChecks.laidMetH_plain _ _ _ (by kernel_rfl)] at hL
  exact gw_of hL hsh
end Go.Proofs.YtojjpimnjlmepaaDoor.Glob
