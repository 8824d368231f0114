-- Written by a program of this session's (the kit's print, with additions of my own). Not trusted: Lean checks it.
import Derived.Test.YtfomeaejhljahaaProg
import Derived.Below
import Derived.Deep.Draws
import Derived.Deep.AppendLies
import Derived.Maps.AppendAt
import Derived.OwnWalk
import Derived.Laws.BytesArg
import Derived.Laws.MakeOwn
import Derived.Laws.OwnMore
import Derived.Deep.OwnRows
import Derived.Tactics
import Derived.Lib.ConvBytes
import Derived.Laws.Slices
import Derived.WalkKit
import Derived.KernelRfl
import Derived.RowKit3
import Derived.Deep.LoopGhost
import Derived.Deep.QuietTactic
import Derived.BigQuiet
import Derived.WideLaws
import Derived.Deep.DeepCutAuto
import Derived.Deep.CutBlock
import Derived.Deep.RegionHeld3
import Derived.Laws.Rows
import Derived.Lib.AppendStr
import Derived.ArgAppend
import Derived.Laws.IdiomCopy
import Derived.OrdersHeld
import Derived.Laws.BitsLemmas
import Derived.RowKit
import Derived.RegionTactic
import Derived.BigRegion
import Derived.Test.YtfomeaejhljahaaChaE
import Derived.Test.YtfomeaejhljahaaWWords
import Derived.Test.YtfomeaejhljahaaWLast
import Derived.Test.YtfomeaejhljahaaWTab
import Derived.Test.YtfomeaejhljahaaWFour
import Derived.Test.YtfomeaejhljahaaWQPut
import Derived.Test.YtfomeaejhljahaaWApart
import Derived.Test.YtfomeaejhljahaaWArr
import Derived.Test.YtfomeaejhljahaaWZeros
import Derived.Test.YtfomeaejhljahaaWFoot
import Derived.Test.YtfomeaejhljahaaWKept
import Derived.Test.YtfomeaejhljahaaWShare
import Derived.Test.YtfomeaejhljahaaWN
import Derived.Test.YtfomeaejhljahaaWFootNe
import Derived.Test.YtfomeaejhljahaaWAt
import Derived.Test.YtfomeaejhljahaaWEqStruct
import Derived.Test.YtfomeaejhljahaaWRepsOne
import Derived.Test.YtfomeaejhljahaaWInv
import Derived.Test.YtfomeaejhljahaaWInvWords
import Derived.Test.YtfomeaejhljahaaWGuard
import Derived.Test.YtfomeaejhljahaaWNEv
import Derived.Test.YtfomeaejhljahaaWMore
namespace Go.Proofs.Ytfomeaejhljahaa.PChachaMay
open Go.RowKit Go.Proofs.YtfomeaejhljahaaW.PrintWords Go.Proofs.YtfomeaejhljahaaW.PrintLast Go.Proofs.YtfomeaejhljahaaW.PrintMore
attribute [local go_sem] max2_int min2_int max_two min_two max_three min_three max_four min_four   -- for this text's walks alone
set_option linter.unusedVariables false
set_option linter.unusedSimpArgs false



def errW : Option Int → Value
  | none => .nilIface
  | some c => .iface 0 (.int .i64 c)
theorem errW_none : errW none = .nilIface := rfl
theorem errW_some (c : Int) : errW (some c) = .iface 0 (.int .i64 c) := rfl

-- the values' own types

end Go.Proofs.Ytfomeaejhljahaa.PChachaMay
