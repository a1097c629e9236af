/- Written by a program of this session out of the translation: plain functions of the Go functions here and the contracts that tie them to the code; no condition beside those in each statement. -/
import Derived.Test.YtmafnkjplnckoaaDoorProg
import Derived.Below
import Derived.Deep.Draws
import Derived.Deep.AppendLies
import Derived.Maps.AppendAt
import Derived.OwnWalk
import Derived.Laws.BytesArg
import Derived.Laws.MakeOwn
import Derived.Laws.OwnMore
import Derived.Deep.OwnRows
import Derived.Tactics
import Derived.Lib.ConvBytes
import Derived.Laws.Slices
import Derived.WalkKit
import Derived.KernelRfl
import Derived.RowKit3
import Derived.Deep.LoopGhost
import Derived.Deep.QuietTactic
import Derived.BigQuiet
import Derived.WideLaws
import Derived.Deep.DeepCutAuto
import Derived.Deep.CutBlock
import Derived.Deep.RegionHeld3
import Derived.Laws.Rows
import Derived.Lib.AppendStr
import Derived.ArgAppend
import Derived.Laws.IdiomCopy
import Derived.OrdersHeld
import Derived.Laws.BitsLemmas
import Derived.RowKit
import Derived.ChangeKeysEq
import Derived.Test.YtmafnkjplnckoaaDoorWWords
import Derived.Test.YtmafnkjplnckoaaDoorWLast
import Derived.Test.YtmafnkjplnckoaaDoorWTab
import Derived.Test.YtmafnkjplnckoaaDoorWFour
import Derived.Test.YtmafnkjplnckoaaDoorWQPut
import Derived.Test.YtmafnkjplnckoaaDoorWApart
import Derived.Test.YtmafnkjplnckoaaDoorWArr
import Derived.Test.YtmafnkjplnckoaaDoorWZeros
import Derived.Test.YtmafnkjplnckoaaDoorWFoot
import Derived.Test.YtmafnkjplnckoaaDoorWKept
import Derived.Test.YtmafnkjplnckoaaDoorWShare
import Derived.Test.YtmafnkjplnckoaaDoorWN
import Derived.Test.YtmafnkjplnckoaaDoorWFootNe
import Derived.Test.YtmafnkjplnckoaaDoorWAt
import Derived.Test.YtmafnkjplnckoaaDoorWEqStruct
import Derived.Test.YtmafnkjplnckoaaDoorWRepsOne
import Derived.Test.YtmafnkjplnckoaaDoorWInv
import Derived.Test.YtmafnkjplnckoaaDoorWInvWords
import Derived.Test.YtmafnkjplnckoaaDoorWGuard
import Derived.Test.YtmafnkjplnckoaaDoorWNEv
import Derived.Test.YtmafnkjplnckoaaDoorWMore
namespace Go.Proofs.YtmafnkjplnckoaaDoor.PL
open Go.RowKit Go.Proofs.YtmafnkjplnckoaaDoorW.PrintWords Go.Proofs.YtmafnkjplnckoaaDoorW.PrintLast Go.Proofs.YtmafnkjplnckoaaDoorW.PrintMore
attribute [local go_sem] max2_int min2_int max_two min_two max_three min_three max_four min_four   -- for this text's walks alone
set_option linter.unusedVariables false
set_option linter.unusedSimpArgs false



def errW : Option Int → Value
  | none => .nilIface
  | some c => .iface 0 (.int .i64 c)
theorem errW_none : errW none = .nilIface := rfl
theorem errW_some (c : Int) : errW (some c) = .iface 0 (.int .i64 c) := rfl

theorem info5 : (Tryd.prog.info? 5).map (fun i => (i.zero, i.size, i.bytes)) = some (some (.int .u8 0), 1, 1) := by kernel_rfl
theorem info9 : (Tryd.prog.info? 9).map (fun i => (i.zero, i.size, i.bytes)) = some (some (.string ⟨#[]⟩), 1, 16) := by kernel_rfl
-- the values' own types

end Go.Proofs.YtmafnkjplnckoaaDoor.PL
