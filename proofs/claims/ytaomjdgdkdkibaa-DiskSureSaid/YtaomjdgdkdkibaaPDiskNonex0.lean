-- Written by a program of this session's (the kit's print, with additions of my own). Not trusted: Lean checks it.
import Derived.Test.YtaomjdgdkdkibaaProg
import Derived.Below
import Derived.Deep.Draws
import Derived.Deep.AppendLies
import Derived.Maps.AppendAt
import Derived.OwnWalk
import Derived.Laws.BytesArg
import Derived.Laws.MakeOwn
import Derived.Laws.OwnMore
import Derived.Deep.OwnRows
import Derived.Tactics
import Derived.Lib.ConvBytes
import Derived.Laws.Slices
import Derived.WalkKit
import Derived.KernelRfl
import Derived.RowKit3
import Derived.Deep.LoopGhost
import Derived.Deep.QuietTactic
import Derived.BigQuiet
import Derived.WideLaws
import Derived.Deep.DeepCutAuto
import Derived.Deep.CutBlock
import Derived.Deep.RegionHeld3
import Derived.Laws.Rows
import Derived.Lib.AppendStr
import Derived.ArgAppend
import Derived.Laws.IdiomCopy
import Derived.OrdersHeld
import Derived.Laws.BitsLemmas
import Derived.RowKit
import Derived.RegionTactic
import Derived.BigRegion
import Derived.Test.YtaomjdgdkdkibaaWWords
import Derived.Test.YtaomjdgdkdkibaaWLast
import Derived.Test.YtaomjdgdkdkibaaWTab
import Derived.Test.YtaomjdgdkdkibaaWFour
import Derived.Test.YtaomjdgdkdkibaaWQPut
import Derived.Test.YtaomjdgdkdkibaaWApart
import Derived.Test.YtaomjdgdkdkibaaWArr
import Derived.Test.YtaomjdgdkdkibaaWZeros
import Derived.Test.YtaomjdgdkdkibaaWFoot
import Derived.Test.YtaomjdgdkdkibaaWKept
import Derived.Test.YtaomjdgdkdkibaaWShare
import Derived.Test.YtaomjdgdkdkibaaWN
import Derived.Test.YtaomjdgdkdkibaaWFootNe
import Derived.Test.YtaomjdgdkdkibaaWAt
import Derived.Test.YtaomjdgdkdkibaaWEqStruct
import Derived.Test.YtaomjdgdkdkibaaWRepsOne
import Derived.Test.YtaomjdgdkdkibaaWInv
import Derived.Test.YtaomjdgdkdkibaaWInvWords
import Derived.Test.YtaomjdgdkdkibaaWGuard
import Derived.Test.YtaomjdgdkdkibaaWNEv
import Derived.Test.YtaomjdgdkdkibaaWMore
import Derived.Test.YtaomjdgdkdkibaaLib
namespace Go.Proofs.Ytaomjdgdkdkibaa.PDiskNone
open Go.RowKit Go.Proofs.YtaomjdgdkdkibaaW.PrintWords Go.Proofs.YtaomjdgdkdkibaaW.PrintLast Go.Proofs.YtaomjdgdkdkibaaW.PrintMore
attribute [local go_sem] max2_int min2_int max_two min_two max_three min_three max_four min_four   -- for this text's walks alone
set_option linter.unusedVariables false
set_option linter.unusedSimpArgs false



def errW : Option Int → Value
  | none => .nilIface
  | some c => .iface 0 (.int .i64 c)
theorem errW_none : errW none = .nilIface := rfl
theorem errW_some (c : Int) : errW (some c) = .iface 0 (.int .i64 c) := rfl

theorem info5 : (Try.prog.info? 5).map (fun i => (i.zero, i.size, i.bytes)) = some (some (.int .u8 0), 1, 1) := by kernel_rfl
-- the values' own types

end Go.Proofs.Ytaomjdgdkdkibaa.PDiskNone
