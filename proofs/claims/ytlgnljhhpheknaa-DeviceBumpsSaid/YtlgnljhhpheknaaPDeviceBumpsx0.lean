-- Written by a program of this session's (the kit's print, with additions of my own). Not trusted: Lean checks it.
import Derived.Test.YtlgnljhhpheknaaProg
import Derived.Below
import Derived.Deep.Draws
import Derived.Deep.AppendLies
import Derived.Maps.AppendAt
import Derived.OwnWalk
import Derived.Laws.BytesArg
import Derived.Laws.MakeOwn
import Derived.Laws.OwnMore
import Derived.Deep.OwnRows
import Derived.Tactics
import Derived.Lib.ConvBytes
import Derived.Laws.Slices
import Derived.WalkKit
import Derived.KernelRfl
import Derived.RowKit3
import Derived.Deep.LoopGhost
import Derived.Deep.QuietTactic
import Derived.BigQuiet
import Derived.WideLaws
import Derived.Deep.DeepCutAuto
import Derived.Deep.CutBlock
import Derived.Deep.RegionHeld3
import Derived.Laws.Rows
import Derived.Lib.AppendStr
import Derived.ArgAppend
import Derived.Laws.IdiomCopy
import Derived.OrdersHeld
import Derived.Laws.BitsLemmas
import Derived.RowKit
import Derived.RegionTactic
import Derived.BigRegion
import Derived.Test.YtlgnljhhpheknaaWWords
import Derived.Test.YtlgnljhhpheknaaWLast
import Derived.Test.YtlgnljhhpheknaaWTab
import Derived.Test.YtlgnljhhpheknaaWFour
import Derived.Test.YtlgnljhhpheknaaWQPut
import Derived.Test.YtlgnljhhpheknaaWApart
import Derived.Test.YtlgnljhhpheknaaWArr
import Derived.Test.YtlgnljhhpheknaaWZeros
import Derived.Test.YtlgnljhhpheknaaWFoot
import Derived.Test.YtlgnljhhpheknaaWKept
import Derived.Test.YtlgnljhhpheknaaWShare
import Derived.Test.YtlgnljhhpheknaaWN
import Derived.Test.YtlgnljhhpheknaaWFootNe
import Derived.Test.YtlgnljhhpheknaaWAt
import Derived.Test.YtlgnljhhpheknaaWEqStruct
import Derived.Test.YtlgnljhhpheknaaWRepsOne
import Derived.Test.YtlgnljhhpheknaaWInv
import Derived.Test.YtlgnljhhpheknaaWInvWords
import Derived.Test.YtlgnljhhpheknaaWGuard
import Derived.Test.YtlgnljhhpheknaaWNEv
import Derived.Test.YtlgnljhhpheknaaWMore
import Derived.Test.YtlgnljhhpheknaaLib
namespace Go.Proofs.Ytlgnljhhpheknaa.PDeviceBumps
open Go.RowKit Go.Proofs.YtlgnljhhpheknaaW.PrintWords Go.Proofs.YtlgnljhhpheknaaW.PrintLast Go.Proofs.YtlgnljhhpheknaaW.PrintMore
attribute [local go_sem] max2_int min2_int max_two min_two max_three min_three max_four min_four   -- for this text's walks alone
set_option linter.unusedVariables false
set_option linter.unusedSimpArgs false



def errW : Option Int → Value
  | none => .nilIface
  | some c => .iface 0 (.int .i64 c)
theorem errW_none : errW none = .nilIface := rfl
theorem errW_some (c : Int) : errW (some c) = .iface 0 (.int .i64 c) := rfl

theorem info5 : (Try.prog.info? 5).map (fun i => (i.zero, i.size, i.bytes)) = some (some (.int .u8 0), 1, 1) := by kernel_rfl
-- the values' own types

end Go.Proofs.Ytlgnljhhpheknaa.PDeviceBumps
