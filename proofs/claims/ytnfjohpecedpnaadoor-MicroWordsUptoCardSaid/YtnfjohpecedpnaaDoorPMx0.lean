/- Written by a program of this session out of the translation: plain functions of the Go functions here and the contracts that tie them to the code; no condition beside those in each statement. -/
import Derived.Test.YtnfjohpecedpnaaDoorProg
import Derived.Below
import Derived.Deep.Draws
import Derived.Deep.AppendLies
import Derived.Maps.AppendAt
import Derived.OwnWalk
import Derived.Laws.BytesArg
import Derived.Laws.MakeOwn
import Derived.Laws.OwnMore
import Derived.Deep.OwnRows
import Derived.Tactics
import Derived.Lib.ConvBytes
import Derived.Laws.Slices
import Derived.WalkKit
import Derived.KernelRfl
import Derived.RowKit3
import Derived.Deep.LoopGhost
import Derived.Deep.QuietTactic
import Derived.BigQuiet
import Derived.WideLaws
import Derived.Deep.DeepCutAuto
import Derived.Deep.CutBlock
import Derived.Deep.RegionHeld3
import Derived.Laws.Rows
import Derived.Lib.AppendStr
import Derived.ArgAppend
import Derived.Laws.IdiomCopy
import Derived.OrdersHeld
import Derived.Laws.BitsLemmas
import Derived.RowKit
import Derived.ChangeKeysEq
import Derived.Test.YtnfjohpecedpnaaDoorWWords
import Derived.Test.YtnfjohpecedpnaaDoorWLast
import Derived.Test.YtnfjohpecedpnaaDoorWTab
import Derived.Test.YtnfjohpecedpnaaDoorWFour
import Derived.Test.YtnfjohpecedpnaaDoorWQPut
import Derived.Test.YtnfjohpecedpnaaDoorWApart
import Derived.Test.YtnfjohpecedpnaaDoorWArr
import Derived.Test.YtnfjohpecedpnaaDoorWZeros
import Derived.Test.YtnfjohpecedpnaaDoorWFoot
import Derived.Test.YtnfjohpecedpnaaDoorWKept
import Derived.Test.YtnfjohpecedpnaaDoorWShare
import Derived.Test.YtnfjohpecedpnaaDoorWN
import Derived.Test.YtnfjohpecedpnaaDoorWFootNe
import Derived.Test.YtnfjohpecedpnaaDoorWAt
import Derived.Test.YtnfjohpecedpnaaDoorWEqStruct
import Derived.Test.YtnfjohpecedpnaaDoorWRepsOne
import Derived.Test.YtnfjohpecedpnaaDoorWInv
import Derived.Test.YtnfjohpecedpnaaDoorWInvWords
import Derived.Test.YtnfjohpecedpnaaDoorWGuard
import Derived.Test.YtnfjohpecedpnaaDoorWNEv
import Derived.Test.YtnfjohpecedpnaaDoorWMore
namespace Go.Proofs.YtnfjohpecedpnaaDoor.PM
open Go.RowKit Go.Proofs.YtnfjohpecedpnaaDoorW.PrintWords Go.Proofs.YtnfjohpecedpnaaDoorW.PrintLast Go.Proofs.YtnfjohpecedpnaaDoorW.PrintMore
attribute [local go_sem] max2_int min2_int max_two min_two max_three min_three max_four min_four   -- for this text's walks alone
set_option linter.unusedVariables false
set_option linter.unusedSimpArgs false



def errW : Option Int → Value
  | none => .nilIface
  | some c => .iface 0 (.int .i64 c)
theorem errW_none : errW none = .nilIface := rfl
theorem errW_some (c : Int) : errW (some c) = .iface 0 (.int .i64 c) := rfl

theorem info5 : (Tryd.prog.info? 5).map (fun i => (i.zero, i.size, i.bytes)) = some (some (.int .u8 0), 1, 1) := by kernel_rfl
theorem info9 : (Tryd.prog.info? 9).map (fun i => (i.zero, i.size, i.bytes)) = some (some (.string ⟨#[]⟩), 1, 16) := by kernel_rfl
-- the values' own types

end Go.Proofs.YtnfjohpecedpnaaDoor.PM
