-- Written by this session's own generator (wip/gen), not by the kit's print.sh.
import Derived.Test.YtbhldnomifnpdaaProg
import Derived.Below
import Derived.Deep.Draws
import Derived.Deep.AppendLies
import Derived.Maps.AppendAt
import Derived.OwnWalk
import Derived.Laws.BytesArg
import Derived.Laws.MakeOwn
import Derived.Laws.OwnMore
import Derived.Deep.OwnRows
import Derived.Tactics
import Derived.Lib.ConvBytes
import Derived.Laws.Slices
import Derived.WalkKit
import Derived.KernelRfl
import Derived.RowKit3
import Derived.Deep.LoopGhost
import Derived.Deep.QuietTactic
import Derived.BigQuiet
import Derived.WideLaws
import Derived.Deep.DeepCutAuto
import Derived.Deep.CutBlock
import Derived.Deep.RegionHeld3
import Derived.Laws.Rows
import Derived.Lib.AppendStr
import Derived.ArgAppend
import Derived.Laws.IdiomCopy
import Derived.OrdersHeld
import Derived.Laws.BitsLemmas
import Derived.RowKit
import Derived.Test.YtbhldnomifnpdaaWWords
import Derived.Test.YtbhldnomifnpdaaWLast
import Derived.Test.YtbhldnomifnpdaaWTab
import Derived.Test.YtbhldnomifnpdaaWFour
import Derived.Test.YtbhldnomifnpdaaWQPut
import Derived.Test.YtbhldnomifnpdaaWApart
import Derived.Test.YtbhldnomifnpdaaWArr
import Derived.Test.YtbhldnomifnpdaaWZeros
import Derived.Test.YtbhldnomifnpdaaWFoot
import Derived.Test.YtbhldnomifnpdaaWKept
import Derived.Test.YtbhldnomifnpdaaWShare
import Derived.Test.YtbhldnomifnpdaaWN
import Derived.Test.YtbhldnomifnpdaaWFootNe
import Derived.Test.YtbhldnomifnpdaaWAt
import Derived.Test.YtbhldnomifnpdaaWEqStruct
import Derived.Test.YtbhldnomifnpdaaWRepsOne
import Derived.Test.YtbhldnomifnpdaaWInv
import Derived.Test.YtbhldnomifnpdaaWInvWords
import Derived.Test.YtbhldnomifnpdaaWGuard
import Derived.Test.YtbhldnomifnpdaaWNEv
import Derived.Test.YtbhldnomifnpdaaWMore
namespace Go.Proofs.Ytbhldnomifnpdaa.PClassFits
open Go.RowKit Go.Proofs.YtbhldnomifnpdaaW.PrintWords Go.Proofs.YtbhldnomifnpdaaW.PrintLast Go.Proofs.YtbhldnomifnpdaaW.PrintMore
attribute [local go_sem] max2_int min2_int max_two min_two max_three min_three max_four min_four   -- for this text's walks alone
set_option linter.unusedVariables false
set_option linter.unusedSimpArgs false



def errW : Option Int → Value
  | none => .nilIface
  | some c => .iface 0 (.int .i64 c)
theorem errW_none : errW none = .nilIface := rfl
theorem errW_some (c : Int) : errW (some c) = .iface 0 (.int .i64 c) := rfl

-- the values' own types

end Go.Proofs.Ytbhldnomifnpdaa.PClassFits
