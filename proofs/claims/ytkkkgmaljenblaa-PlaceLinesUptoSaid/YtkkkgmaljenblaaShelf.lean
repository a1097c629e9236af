/-
  DERIVED: THE SHELF's CONTRACTS AT THIS DUMP, IN PLAIN WORDS (tools/lay-plain.mjs out of 'TryShelf.lean', which tools/lay-shelf.mjs wrote): THE SAME DECLARATIONS UNDER THE SAME NAMES: 'import', 'namespace', 'open', 'def', 'theorem' AND NOTHING ELSE: no command of the shelf's: FOR A HAND-IN. Each laying: the table of numbers ('.._ren') and one theorem, a field a fact of the dump's own or the kernel's comparison; each contract: ONE APPLICATION.
-/
import Derived.Shelf.SlSorted.Search
import Derived.Ground.SlsoProg
import Derived.Test.YtkkkgmaljenblaaProg
namespace Go.Proofs
open Go.Shelf
def Try.searchInts_ren : Go.Shelf.Ren := ⟨fun | 14 => 9 | 22 => 11 | 16 => 10 | n => n, fun | 28 => 22 | 3 => 3 | 0 => 0 | 35 => 42 | 4 => 4 | 38 => 43 | n => n, fun | n => n⟩
theorem Try.searchInts : Go.Proofs.SlLaysO.n14 Try.prog Try.searchInts_ren := {
  mixed := by kernel_rfl
  f14 := Try.func9.trans (congrArg some (by kernel_rfl))
  f16 := Try.func10.trans (congrArg some (by kernel_rfl))
  f22 := Try.func11.trans (congrArg some (by kernel_rfl))
  t0 := Try.underlying0
  a0 := Try.isAgg0
  z0 := Try.sizeOf0
  v0 := Try.zeroValue0
  t3 := Try.underlying3
  a3 := Try.isAgg3
  z3 := Try.sizeOf3
  v3 := Try.zeroValue3
  t4 := Try.underlying4
  a4 := Try.isAgg4
  z4 := Try.sizeOf4
  v4 := Try.zeroValue4
  t28 := Try.underlying22
  a28 := Try.isAgg22
  z28 := Try.sizeOf22
  v28 := Try.zeroValue22
  t35 := Try.underlying42
  a35 := Try.isAgg42
  z35 := Try.sizeOf42
  v35 := Try.zeroValue42
  t38 := Try.underlying43
  a38 := Try.isAgg43
  z38 := Try.sizeOf43
  v38 := Try.zeroValue43 }
end Go.Proofs
