-- Written by a program of this session's (the kit's print, with additions of my own). Not trusted: Lean checks it.
import Derived.Test.YtlllahlhijikoaaDoorProg
import Derived.Below
import Derived.Deep.Draws
import Derived.Deep.AppendLies
import Derived.Maps.AppendAt
import Derived.OwnWalk
import Derived.Laws.BytesArg
import Derived.Laws.MakeOwn
import Derived.Laws.OwnMore
import Derived.Deep.OwnRows
import Derived.Tactics
import Derived.Lib.ConvBytes
import Derived.Laws.Slices
import Derived.WalkKit
import Derived.KernelRfl
import Derived.RowKit3
import Derived.Deep.LoopGhost
import Derived.Deep.QuietTactic
import Derived.BigQuiet
import Derived.WideLaws
import Derived.Deep.DeepCutAuto
import Derived.Deep.CutBlock
import Derived.Deep.RegionHeld3
import Derived.Laws.Rows
import Derived.Lib.AppendStr
import Derived.ArgAppend
import Derived.Laws.IdiomCopy
import Derived.OrdersHeld
import Derived.Laws.BitsLemmas
import Derived.RowKit
import Derived.RegionTactic
import Derived.BigRegion
import Derived.Test.YtlllahlhijikoaaDoorLib
import Derived.Test.YtlllahlhijikoaaDoorXB
import Derived.Test.YtlllahlhijikoaaDoorOrG
import Derived.Test.YtlllahlhijikoaaDoorWWords
import Derived.Test.YtlllahlhijikoaaDoorWLast
import Derived.Test.YtlllahlhijikoaaDoorWTab
import Derived.Test.YtlllahlhijikoaaDoorWFour
import Derived.Test.YtlllahlhijikoaaDoorWQPut
import Derived.Test.YtlllahlhijikoaaDoorWApart
import Derived.Test.YtlllahlhijikoaaDoorWArr
import Derived.Test.YtlllahlhijikoaaDoorWZeros
import Derived.Test.YtlllahlhijikoaaDoorWFoot
import Derived.Test.YtlllahlhijikoaaDoorWKept
import Derived.Test.YtlllahlhijikoaaDoorWShare
import Derived.Test.YtlllahlhijikoaaDoorWN
import Derived.Test.YtlllahlhijikoaaDoorWFootNe
import Derived.Test.YtlllahlhijikoaaDoorWAt
import Derived.Test.YtlllahlhijikoaaDoorWEqStruct
import Derived.Test.YtlllahlhijikoaaDoorWRepsOne
import Derived.Test.YtlllahlhijikoaaDoorWInv
import Derived.Test.YtlllahlhijikoaaDoorWInvWords
import Derived.Test.YtlllahlhijikoaaDoorWGuard
import Derived.Test.YtlllahlhijikoaaDoorWNEv
import Derived.Test.YtlllahlhijikoaaDoorWMore
namespace Go.Proofs.YtlllahlhijikoaaDoor.POrderNone
open Go.RowKit Go.Proofs.YtlllahlhijikoaaDoorW.PrintWords Go.Proofs.YtlllahlhijikoaaDoorW.PrintLast Go.Proofs.YtlllahlhijikoaaDoorW.PrintMore
attribute [local go_sem] max2_int min2_int max_two min_two max_three min_three max_four min_four   -- for this text's walks alone
set_option linter.unusedVariables false
set_option linter.unusedSimpArgs false



def errW : Option Int → Value
  | none => .nilIface
  | some c => .iface 0 (.int .i64 c)
theorem errW_none : errW none = .nilIface := rfl
theorem errW_some (c : Int) : errW (some c) = .iface 0 (.int .i64 c) := rfl

theorem info5 : (Tryd.prog.info? 5).map (fun i => (i.zero, i.size, i.bytes)) = some (some (.int .u8 0), 1, 1) := by kernel_rfl
-- the values' own types

end Go.Proofs.YtlllahlhijikoaaDoor.POrderNone
