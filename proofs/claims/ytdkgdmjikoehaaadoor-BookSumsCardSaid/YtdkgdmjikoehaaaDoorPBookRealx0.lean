-- Written by a program of this session's (the kit's print, with additions of my own). Not trusted: Lean checks it.
import Derived.Test.YtdkgdmjikoehaaaDoorProg
import Derived.Below
import Derived.Deep.Draws
import Derived.Deep.AppendLies
import Derived.Maps.AppendAt
import Derived.OwnWalk
import Derived.Laws.BytesArg
import Derived.Laws.MakeOwn
import Derived.Laws.OwnMore
import Derived.Deep.OwnRows
import Derived.Tactics
import Derived.Lib.ConvBytes
import Derived.Laws.Slices
import Derived.WalkKit
import Derived.KernelRfl
import Derived.RowKit3
import Derived.Deep.LoopGhost
import Derived.Deep.QuietTactic
import Derived.BigQuiet
import Derived.WideLaws
import Derived.Deep.DeepCutAuto
import Derived.Deep.CutBlock
import Derived.Deep.RegionHeld3
import Derived.Laws.Rows
import Derived.Lib.AppendStr
import Derived.ArgAppend
import Derived.Laws.IdiomCopy
import Derived.OrdersHeld
import Derived.Laws.BitsLemmas
import Derived.RowKit
import Derived.RegionTactic
import Derived.BigRegion
import Derived.Test.YtdkgdmjikoehaaaDoorShaZ
import Derived.Test.YtdkgdmjikoehaaaDoorWWords
import Derived.Test.YtdkgdmjikoehaaaDoorWLast
import Derived.Test.YtdkgdmjikoehaaaDoorWTab
import Derived.Test.YtdkgdmjikoehaaaDoorWFour
import Derived.Test.YtdkgdmjikoehaaaDoorWQPut
import Derived.Test.YtdkgdmjikoehaaaDoorWApart
import Derived.Test.YtdkgdmjikoehaaaDoorWArr
import Derived.Test.YtdkgdmjikoehaaaDoorWZeros
import Derived.Test.YtdkgdmjikoehaaaDoorWFoot
import Derived.Test.YtdkgdmjikoehaaaDoorWKept
import Derived.Test.YtdkgdmjikoehaaaDoorWShare
import Derived.Test.YtdkgdmjikoehaaaDoorWN
import Derived.Test.YtdkgdmjikoehaaaDoorWFootNe
import Derived.Test.YtdkgdmjikoehaaaDoorWAt
import Derived.Test.YtdkgdmjikoehaaaDoorWEqStruct
import Derived.Test.YtdkgdmjikoehaaaDoorWRepsOne
import Derived.Test.YtdkgdmjikoehaaaDoorWInv
import Derived.Test.YtdkgdmjikoehaaaDoorWInvWords
import Derived.Test.YtdkgdmjikoehaaaDoorWGuard
import Derived.Test.YtdkgdmjikoehaaaDoorWNEv
import Derived.Test.YtdkgdmjikoehaaaDoorWMore
namespace Go.Proofs.YtdkgdmjikoehaaaDoor.PBookReal
open Go.RowKit Go.Proofs.YtdkgdmjikoehaaaDoorW.PrintWords Go.Proofs.YtdkgdmjikoehaaaDoorW.PrintLast Go.Proofs.YtdkgdmjikoehaaaDoorW.PrintMore
attribute [local go_sem] max2_int min2_int max_two min_two max_three min_three max_four min_four   -- for this text's walks alone
set_option linter.unusedVariables false
set_option linter.unusedSimpArgs false



def errW : Option Int → Value
  | none => .nilIface
  | some c => .iface 0 (.int .i64 c)
theorem errW_none : errW none = .nilIface := rfl
theorem errW_some (c : Int) : errW (some c) = .iface 0 (.int .i64 c) := rfl

-- the values' own types

end Go.Proofs.YtdkgdmjikoehaaaDoor.PBookReal
