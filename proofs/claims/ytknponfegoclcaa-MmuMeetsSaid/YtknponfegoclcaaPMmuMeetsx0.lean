-- Written by this session's own generator (wip/gen), not by the kit's print.sh.
import Derived.Test.YtknponfegoclcaaProg
import Derived.Below
import Derived.Deep.Draws
import Derived.Deep.AppendLies
import Derived.Maps.AppendAt
import Derived.OwnWalk
import Derived.Laws.BytesArg
import Derived.Laws.MakeOwn
import Derived.Laws.OwnMore
import Derived.Deep.OwnRows
import Derived.Tactics
import Derived.Lib.ConvBytes
import Derived.Laws.Slices
import Derived.WalkKit
import Derived.KernelRfl
import Derived.RowKit3
import Derived.Deep.LoopGhost
import Derived.Deep.QuietTactic
import Derived.BigQuiet
import Derived.WideLaws
import Derived.Deep.DeepCutAuto
import Derived.Deep.CutBlock
import Derived.Deep.RegionHeld3
import Derived.Laws.Rows
import Derived.Lib.AppendStr
import Derived.ArgAppend
import Derived.Laws.IdiomCopy
import Derived.OrdersHeld
import Derived.Laws.BitsLemmas
import Derived.RowKit
import Derived.Test.YtknponfegoclcaaMmu
import Derived.Test.YtknponfegoclcaaWWords
import Derived.Test.YtknponfegoclcaaWLast
import Derived.Test.YtknponfegoclcaaWTab
import Derived.Test.YtknponfegoclcaaWFour
import Derived.Test.YtknponfegoclcaaWQPut
import Derived.Test.YtknponfegoclcaaWApart
import Derived.Test.YtknponfegoclcaaWArr
import Derived.Test.YtknponfegoclcaaWZeros
import Derived.Test.YtknponfegoclcaaWFoot
import Derived.Test.YtknponfegoclcaaWKept
import Derived.Test.YtknponfegoclcaaWShare
import Derived.Test.YtknponfegoclcaaWN
import Derived.Test.YtknponfegoclcaaWFootNe
import Derived.Test.YtknponfegoclcaaWAt
import Derived.Test.YtknponfegoclcaaWEqStruct
import Derived.Test.YtknponfegoclcaaWRepsOne
import Derived.Test.YtknponfegoclcaaWInv
import Derived.Test.YtknponfegoclcaaWInvWords
import Derived.Test.YtknponfegoclcaaWGuard
import Derived.Test.YtknponfegoclcaaWNEv
import Derived.Test.YtknponfegoclcaaWMore
namespace Go.Proofs.Ytknponfegoclcaa.PMmuMeets
open Go.RowKit Go.Proofs.YtknponfegoclcaaW.PrintWords Go.Proofs.YtknponfegoclcaaW.PrintLast Go.Proofs.YtknponfegoclcaaW.PrintMore
attribute [local go_sem] max2_int min2_int max_two min_two max_three min_three max_four min_four   -- for this text's walks alone
set_option linter.unusedVariables false
set_option linter.unusedSimpArgs false



def errW : Option Int → Value
  | none => .nilIface
  | some c => .iface 0 (.int .i64 c)
theorem errW_none : errW none = .nilIface := rfl
theorem errW_some (c : Int) : errW (some c) = .iface 0 (.int .i64 c) := rfl

theorem info3 : (Try.prog.info? 3).map (fun i => (i.zero, i.size, i.bytes)) = some (some (.int .i64 0), 1, 8) := by kernel_rfl
theorem info4 : (Try.prog.info? 4).map (fun i => (i.zero, i.size, i.bytes)) = some (some (.bool false), 1, 1) := by kernel_rfl
-- the values' own types

end Go.Proofs.Ytknponfegoclcaa.PMmuMeets
