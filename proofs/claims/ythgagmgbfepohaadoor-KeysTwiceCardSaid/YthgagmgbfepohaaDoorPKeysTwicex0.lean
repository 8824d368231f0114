-- Written by a program of this session's (the kit's print, with additions of my own). Not trusted: Lean checks it.
import Derived.Test.YthgagmgbfepohaaDoorProg
import Derived.Below
import Derived.Deep.Draws
import Derived.Deep.AppendLies
import Derived.Maps.AppendAt
import Derived.OwnWalk
import Derived.Laws.BytesArg
import Derived.Laws.MakeOwn
import Derived.Laws.OwnMore
import Derived.Deep.OwnRows
import Derived.Tactics
import Derived.Lib.ConvBytes
import Derived.Laws.Slices
import Derived.WalkKit
import Derived.KernelRfl
import Derived.RowKit3
import Derived.Deep.LoopGhost
import Derived.Deep.QuietTactic
import Derived.BigQuiet
import Derived.WideLaws
import Derived.Deep.DeepCutAuto
import Derived.Deep.CutBlock
import Derived.Deep.RegionHeld3
import Derived.Laws.Rows
import Derived.Lib.AppendStr
import Derived.ArgAppend
import Derived.Laws.IdiomCopy
import Derived.OrdersHeld
import Derived.Laws.BitsLemmas
import Derived.RowKit
import Derived.RegionTactic
import Derived.BigRegion
import Derived.Test.YthgagmgbfepohaaDoorShaZ
import Derived.Test.YthgagmgbfepohaaDoorHmC
import Derived.Test.YthgagmgbfepohaaDoorWWords
import Derived.Test.YthgagmgbfepohaaDoorWLast
import Derived.Test.YthgagmgbfepohaaDoorWTab
import Derived.Test.YthgagmgbfepohaaDoorWFour
import Derived.Test.YthgagmgbfepohaaDoorWQPut
import Derived.Test.YthgagmgbfepohaaDoorWApart
import Derived.Test.YthgagmgbfepohaaDoorWArr
import Derived.Test.YthgagmgbfepohaaDoorWZeros
import Derived.Test.YthgagmgbfepohaaDoorWFoot
import Derived.Test.YthgagmgbfepohaaDoorWKept
import Derived.Test.YthgagmgbfepohaaDoorWShare
import Derived.Test.YthgagmgbfepohaaDoorWN
import Derived.Test.YthgagmgbfepohaaDoorWFootNe
import Derived.Test.YthgagmgbfepohaaDoorWAt
import Derived.Test.YthgagmgbfepohaaDoorWEqStruct
import Derived.Test.YthgagmgbfepohaaDoorWRepsOne
import Derived.Test.YthgagmgbfepohaaDoorWInv
import Derived.Test.YthgagmgbfepohaaDoorWInvWords
import Derived.Test.YthgagmgbfepohaaDoorWGuard
import Derived.Test.YthgagmgbfepohaaDoorWNEv
import Derived.Test.YthgagmgbfepohaaDoorWMore
namespace Go.Proofs.YthgagmgbfepohaaDoor.PKeysTwice
open Go.RowKit Go.Proofs.YthgagmgbfepohaaDoorW.PrintWords Go.Proofs.YthgagmgbfepohaaDoorW.PrintLast Go.Proofs.YthgagmgbfepohaaDoorW.PrintMore
attribute [local go_sem] max2_int min2_int max_two min_two max_three min_three max_four min_four   -- for this text's walks alone
set_option linter.unusedVariables false
set_option linter.unusedSimpArgs false



def errW : Option Int → Value
  | none => .nilIface
  | some c => .iface 0 (.int .i64 c)
theorem errW_none : errW none = .nilIface := rfl
theorem errW_some (c : Int) : errW (some c) = .iface 0 (.int .i64 c) := rfl

theorem info5 : (Tryd.prog.info? 5).map (fun i => (i.zero, i.size, i.bytes)) = some (some (.int .u8 0), 1, 1) := by kernel_rfl
-- the values' own types

end Go.Proofs.YthgagmgbfepohaaDoor.PKeysTwice
