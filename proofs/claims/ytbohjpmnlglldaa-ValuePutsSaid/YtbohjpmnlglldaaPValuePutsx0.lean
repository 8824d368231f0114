-- Written by a program of this session's (the kit's print, with additions of my own). Not trusted: Lean checks it.
import Derived.Test.YtbohjpmnlglldaaProg
import Derived.Below
import Derived.Deep.Draws
import Derived.Deep.AppendLies
import Derived.Maps.AppendAt
import Derived.OwnWalk
import Derived.Laws.BytesArg
import Derived.Laws.MakeOwn
import Derived.Laws.OwnMore
import Derived.Deep.OwnRows
import Derived.Tactics
import Derived.Lib.ConvBytes
import Derived.Laws.Slices
import Derived.WalkKit
import Derived.KernelRfl
import Derived.RowKit3
import Derived.Deep.LoopGhost
import Derived.Deep.QuietTactic
import Derived.BigQuiet
import Derived.WideLaws
import Derived.Deep.DeepCutAuto
import Derived.Deep.CutBlock
import Derived.Deep.RegionHeld3
import Derived.Laws.Rows
import Derived.Lib.AppendStr
import Derived.ArgAppend
import Derived.Laws.IdiomCopy
import Derived.OrdersHeld
import Derived.Laws.BitsLemmas
import Derived.RowKit
import Derived.RegionTactic
import Derived.BigRegion
import Derived.Test.YtbohjpmnlglldaaCmp
import Derived.Test.YtbohjpmnlglldaaWWords
import Derived.Test.YtbohjpmnlglldaaWLast
import Derived.Test.YtbohjpmnlglldaaWTab
import Derived.Test.YtbohjpmnlglldaaWFour
import Derived.Test.YtbohjpmnlglldaaWQPut
import Derived.Test.YtbohjpmnlglldaaWApart
import Derived.Test.YtbohjpmnlglldaaWArr
import Derived.Test.YtbohjpmnlglldaaWZeros
import Derived.Test.YtbohjpmnlglldaaWFoot
import Derived.Test.YtbohjpmnlglldaaWKept
import Derived.Test.YtbohjpmnlglldaaWShare
import Derived.Test.YtbohjpmnlglldaaWN
import Derived.Test.YtbohjpmnlglldaaWFootNe
import Derived.Test.YtbohjpmnlglldaaWAt
import Derived.Test.YtbohjpmnlglldaaWEqStruct
import Derived.Test.YtbohjpmnlglldaaWRepsOne
import Derived.Test.YtbohjpmnlglldaaWInv
import Derived.Test.YtbohjpmnlglldaaWInvWords
import Derived.Test.YtbohjpmnlglldaaWGuard
import Derived.Test.YtbohjpmnlglldaaWNEv
import Derived.Test.YtbohjpmnlglldaaWMore
namespace Go.Proofs.Ytbohjpmnlglldaa.PValuePuts
open Go.RowKit Go.Proofs.YtbohjpmnlglldaaW.PrintWords Go.Proofs.YtbohjpmnlglldaaW.PrintLast Go.Proofs.YtbohjpmnlglldaaW.PrintMore
attribute [local go_sem] max2_int min2_int max_two min_two max_three min_three max_four min_four   -- for this text's walks alone
set_option linter.unusedVariables false
set_option linter.unusedSimpArgs false



def errW : Option Int → Value
  | none => .nilIface
  | some c => .iface 0 (.int .i64 c)
theorem errW_none : errW none = .nilIface := rfl
theorem errW_some (c : Int) : errW (some c) = .iface 0 (.int .i64 c) := rfl

theorem info3 : (Try.prog.info? 3).map (fun i => (i.zero, i.size, i.bytes)) = some (some (.int .i64 0), 1, 8) := by kernel_rfl
theorem info5 : (Try.prog.info? 5).map (fun i => (i.zero, i.size, i.bytes)) = some (some (.int .u8 0), 1, 1) := by kernel_rfl
-- the values' own types

end Go.Proofs.Ytbohjpmnlglldaa.PValuePuts
