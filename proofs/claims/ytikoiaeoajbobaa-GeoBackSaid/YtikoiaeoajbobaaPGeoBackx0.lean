-- Written by this session's own generator (wip/gen), not by the kit's print.sh.
import Derived.Test.YtikoiaeoajbobaaProg
import Derived.Below
import Derived.Deep.Draws
import Derived.Deep.AppendLies
import Derived.Maps.AppendAt
import Derived.OwnWalk
import Derived.Laws.BytesArg
import Derived.Laws.MakeOwn
import Derived.Laws.OwnMore
import Derived.Deep.OwnRows
import Derived.Tactics
import Derived.Lib.ConvBytes
import Derived.Laws.Slices
import Derived.WalkKit
import Derived.KernelRfl
import Derived.RowKit3
import Derived.Deep.LoopGhost
import Derived.Deep.QuietTactic
import Derived.BigQuiet
import Derived.WideLaws
import Derived.Deep.DeepCutAuto
import Derived.Deep.CutBlock
import Derived.Deep.RegionHeld3
import Derived.Laws.Rows
import Derived.Lib.AppendStr
import Derived.ArgAppend
import Derived.Laws.IdiomCopy
import Derived.OrdersHeld
import Derived.Laws.BitsLemmas
import Derived.RowKit
import Derived.Test.YtikoiaeoajbobaaWWords
import Derived.Test.YtikoiaeoajbobaaWLast
import Derived.Test.YtikoiaeoajbobaaWTab
import Derived.Test.YtikoiaeoajbobaaWFour
import Derived.Test.YtikoiaeoajbobaaWQPut
import Derived.Test.YtikoiaeoajbobaaWApart
import Derived.Test.YtikoiaeoajbobaaWArr
import Derived.Test.YtikoiaeoajbobaaWZeros
import Derived.Test.YtikoiaeoajbobaaWFoot
import Derived.Test.YtikoiaeoajbobaaWKept
import Derived.Test.YtikoiaeoajbobaaWShare
import Derived.Test.YtikoiaeoajbobaaWN
import Derived.Test.YtikoiaeoajbobaaWFootNe
import Derived.Test.YtikoiaeoajbobaaWAt
import Derived.Test.YtikoiaeoajbobaaWEqStruct
import Derived.Test.YtikoiaeoajbobaaWRepsOne
import Derived.Test.YtikoiaeoajbobaaWInv
import Derived.Test.YtikoiaeoajbobaaWInvWords
import Derived.Test.YtikoiaeoajbobaaWGuard
import Derived.Test.YtikoiaeoajbobaaWNEv
import Derived.Test.YtikoiaeoajbobaaWMore
namespace Go.Proofs.Ytikoiaeoajbobaa.PGeoBack
open Go.RowKit Go.Proofs.YtikoiaeoajbobaaW.PrintWords Go.Proofs.YtikoiaeoajbobaaW.PrintLast Go.Proofs.YtikoiaeoajbobaaW.PrintMore
attribute [local go_sem] max2_int min2_int max_two min_two max_three min_three max_four min_four   -- for this text's walks alone
set_option linter.unusedVariables false
set_option linter.unusedSimpArgs false



def errW : Option Int → Value
  | none => .nilIface
  | some c => .iface 0 (.int .i64 c)
theorem errW_none : errW none = .nilIface := rfl
theorem errW_some (c : Int) : errW (some c) = .iface 0 (.int .i64 c) := rfl

-- the values' own types

end Go.Proofs.Ytikoiaeoajbobaa.PGeoBack
