-- Written by a program of this session's (the kit's print, with additions of my own). Not trusted: Lean checks it.
import Derived.Test.YticmmdbmpepmkaaDoorProg
import Derived.Below
import Derived.Deep.Draws
import Derived.Deep.AppendLies
import Derived.Maps.AppendAt
import Derived.OwnWalk
import Derived.Laws.BytesArg
import Derived.Laws.MakeOwn
import Derived.Laws.OwnMore
import Derived.Deep.OwnRows
import Derived.Tactics
import Derived.Lib.ConvBytes
import Derived.Laws.Slices
import Derived.WalkKit
import Derived.KernelRfl
import Derived.RowKit3
import Derived.Deep.LoopGhost
import Derived.Deep.QuietTactic
import Derived.BigQuiet
import Derived.WideLaws
import Derived.Deep.DeepCutAuto
import Derived.Deep.CutBlock
import Derived.Deep.RegionHeld3
import Derived.Laws.Rows
import Derived.Lib.AppendStr
import Derived.ArgAppend
import Derived.Laws.IdiomCopy
import Derived.OrdersHeld
import Derived.Laws.BitsLemmas
import Derived.RowKit
import Derived.RegionTactic
import Derived.BigRegion
import Derived.Test.YticmmdbmpepmkaaDoorShaZ
import Derived.Test.YticmmdbmpepmkaaDoorHmC
import Derived.Test.YticmmdbmpepmkaaDoorWWords
import Derived.Test.YticmmdbmpepmkaaDoorWLast
import Derived.Test.YticmmdbmpepmkaaDoorWTab
import Derived.Test.YticmmdbmpepmkaaDoorWFour
import Derived.Test.YticmmdbmpepmkaaDoorWQPut
import Derived.Test.YticmmdbmpepmkaaDoorWApart
import Derived.Test.YticmmdbmpepmkaaDoorWArr
import Derived.Test.YticmmdbmpepmkaaDoorWZeros
import Derived.Test.YticmmdbmpepmkaaDoorWFoot
import Derived.Test.YticmmdbmpepmkaaDoorWKept
import Derived.Test.YticmmdbmpepmkaaDoorWShare
import Derived.Test.YticmmdbmpepmkaaDoorWN
import Derived.Test.YticmmdbmpepmkaaDoorWFootNe
import Derived.Test.YticmmdbmpepmkaaDoorWAt
import Derived.Test.YticmmdbmpepmkaaDoorWEqStruct
import Derived.Test.YticmmdbmpepmkaaDoorWRepsOne
import Derived.Test.YticmmdbmpepmkaaDoorWInv
import Derived.Test.YticmmdbmpepmkaaDoorWInvWords
import Derived.Test.YticmmdbmpepmkaaDoorWGuard
import Derived.Test.YticmmdbmpepmkaaDoorWNEv
import Derived.Test.YticmmdbmpepmkaaDoorWMore
namespace Go.Proofs.YticmmdbmpepmkaaDoor.PHmacSame
open Go.RowKit Go.Proofs.YticmmdbmpepmkaaDoorW.PrintWords Go.Proofs.YticmmdbmpepmkaaDoorW.PrintLast Go.Proofs.YticmmdbmpepmkaaDoorW.PrintMore
attribute [local go_sem] max2_int min2_int max_two min_two max_three min_three max_four min_four   -- for this text's walks alone
set_option linter.unusedVariables false
set_option linter.unusedSimpArgs false



def errW : Option Int → Value
  | none => .nilIface
  | some c => .iface 0 (.int .i64 c)
theorem errW_none : errW none = .nilIface := rfl
theorem errW_some (c : Int) : errW (some c) = .iface 0 (.int .i64 c) := rfl

-- the values' own types

end Go.Proofs.YticmmdbmpepmkaaDoor.PHmacSame
