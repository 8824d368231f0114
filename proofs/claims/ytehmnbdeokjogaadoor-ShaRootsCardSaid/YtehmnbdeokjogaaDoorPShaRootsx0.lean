-- Written by a program of this session's (the kit's print, with additions of my own). Not trusted: Lean checks it.
import Derived.Test.YtehmnbdeokjogaaDoorProg
import Derived.Below
import Derived.Deep.Draws
import Derived.Deep.AppendLies
import Derived.Maps.AppendAt
import Derived.OwnWalk
import Derived.Laws.BytesArg
import Derived.Laws.MakeOwn
import Derived.Laws.OwnMore
import Derived.Deep.OwnRows
import Derived.Tactics
import Derived.Lib.ConvBytes
import Derived.Laws.Slices
import Derived.WalkKit
import Derived.KernelRfl
import Derived.RowKit3
import Derived.Deep.LoopGhost
import Derived.Deep.QuietTactic
import Derived.BigQuiet
import Derived.WideLaws
import Derived.Deep.DeepCutAuto
import Derived.Deep.CutBlock
import Derived.Deep.RegionHeld3
import Derived.Laws.Rows
import Derived.Lib.AppendStr
import Derived.ArgAppend
import Derived.Laws.IdiomCopy
import Derived.OrdersHeld
import Derived.Laws.BitsLemmas
import Derived.RowKit
import Derived.RegionTactic
import Derived.BigRegion
import Derived.Test.YtehmnbdeokjogaaDoorShaZ
import Derived.Test.YtehmnbdeokjogaaDoorShaR
import Derived.Test.YtehmnbdeokjogaaDoorWWords
import Derived.Test.YtehmnbdeokjogaaDoorWLast
import Derived.Test.YtehmnbdeokjogaaDoorWTab
import Derived.Test.YtehmnbdeokjogaaDoorWFour
import Derived.Test.YtehmnbdeokjogaaDoorWQPut
import Derived.Test.YtehmnbdeokjogaaDoorWApart
import Derived.Test.YtehmnbdeokjogaaDoorWArr
import Derived.Test.YtehmnbdeokjogaaDoorWZeros
import Derived.Test.YtehmnbdeokjogaaDoorWFoot
import Derived.Test.YtehmnbdeokjogaaDoorWKept
import Derived.Test.YtehmnbdeokjogaaDoorWShare
import Derived.Test.YtehmnbdeokjogaaDoorWN
import Derived.Test.YtehmnbdeokjogaaDoorWFootNe
import Derived.Test.YtehmnbdeokjogaaDoorWAt
import Derived.Test.YtehmnbdeokjogaaDoorWEqStruct
import Derived.Test.YtehmnbdeokjogaaDoorWRepsOne
import Derived.Test.YtehmnbdeokjogaaDoorWInv
import Derived.Test.YtehmnbdeokjogaaDoorWInvWords
import Derived.Test.YtehmnbdeokjogaaDoorWGuard
import Derived.Test.YtehmnbdeokjogaaDoorWNEv
import Derived.Test.YtehmnbdeokjogaaDoorWMore
namespace Go.Proofs.YtehmnbdeokjogaaDoor.PShaRoots
open Go.RowKit Go.Proofs.YtehmnbdeokjogaaDoorW.PrintWords Go.Proofs.YtehmnbdeokjogaaDoorW.PrintLast Go.Proofs.YtehmnbdeokjogaaDoorW.PrintMore
attribute [local go_sem] max2_int min2_int max_two min_two max_three min_three max_four min_four   -- for this text's walks alone
set_option linter.unusedVariables false
set_option linter.unusedSimpArgs false



def errW : Option Int → Value
  | none => .nilIface
  | some c => .iface 0 (.int .i64 c)
theorem errW_none : errW none = .nilIface := rfl
theorem errW_some (c : Int) : errW (some c) = .iface 0 (.int .i64 c) := rfl

theorem info28 : (Tryd.prog.info? 28).map (fun i => (i.zero, i.size, i.bytes)) = some (some (.int .u32 0), 1, 4) := by kernel_rfl
theorem info38 : (Tryd.prog.info? 38).map (fun i => (i.zero, i.size, i.bytes)) = some (some (.int .u64 0), 1, 8) := by kernel_rfl
-- the values' own types

end Go.Proofs.YtehmnbdeokjogaaDoor.PShaRoots
