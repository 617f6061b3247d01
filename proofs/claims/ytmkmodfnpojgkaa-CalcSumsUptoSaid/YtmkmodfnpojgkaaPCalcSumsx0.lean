-- Written by this session's own generator (wip/gen), not by the kit's print.sh.
import Derived.Test.YtmkmodfnpojgkaaProg
import Derived.Below
import Derived.Deep.Draws
import Derived.Deep.AppendLies
import Derived.Maps.AppendAt
import Derived.OwnWalk
import Derived.Laws.BytesArg
import Derived.Laws.MakeOwn
import Derived.Laws.OwnMore
import Derived.Deep.OwnRows
import Derived.Tactics
import Derived.Lib.ConvBytes
import Derived.Laws.Slices
import Derived.WalkKit
import Derived.KernelRfl
import Derived.RowKit3
import Derived.Deep.LoopGhost
import Derived.Deep.QuietTactic
import Derived.BigQuiet
import Derived.WideLaws
import Derived.Deep.DeepCutAuto
import Derived.Deep.CutBlock
import Derived.Deep.RegionHeld3
import Derived.Laws.Rows
import Derived.Lib.AppendStr
import Derived.ArgAppend
import Derived.Laws.IdiomCopy
import Derived.OrdersHeld
import Derived.Laws.BitsLemmas
import Derived.RowKit
import Derived.Test.YtmkmodfnpojgkaaWWords
import Derived.Test.YtmkmodfnpojgkaaWLast
import Derived.Test.YtmkmodfnpojgkaaWTab
import Derived.Test.YtmkmodfnpojgkaaWFour
import Derived.Test.YtmkmodfnpojgkaaWQPut
import Derived.Test.YtmkmodfnpojgkaaWApart
import Derived.Test.YtmkmodfnpojgkaaWArr
import Derived.Test.YtmkmodfnpojgkaaWZeros
import Derived.Test.YtmkmodfnpojgkaaWFoot
import Derived.Test.YtmkmodfnpojgkaaWKept
import Derived.Test.YtmkmodfnpojgkaaWShare
import Derived.Test.YtmkmodfnpojgkaaWN
import Derived.Test.YtmkmodfnpojgkaaWFootNe
import Derived.Test.YtmkmodfnpojgkaaWAt
import Derived.Test.YtmkmodfnpojgkaaWEqStruct
import Derived.Test.YtmkmodfnpojgkaaWRepsOne
import Derived.Test.YtmkmodfnpojgkaaWInv
import Derived.Test.YtmkmodfnpojgkaaWInvWords
import Derived.Test.YtmkmodfnpojgkaaWGuard
import Derived.Test.YtmkmodfnpojgkaaWNEv
import Derived.Test.YtmkmodfnpojgkaaWMore
namespace Go.Proofs.Ytmkmodfnpojgkaa.PCalcSums
open Go.RowKit Go.Proofs.YtmkmodfnpojgkaaW.PrintWords Go.Proofs.YtmkmodfnpojgkaaW.PrintLast Go.Proofs.YtmkmodfnpojgkaaW.PrintMore
attribute [local go_sem] max2_int min2_int max_two min_two max_three min_three max_four min_four   -- for this text's walks alone
set_option linter.unusedVariables false
set_option linter.unusedSimpArgs false



def errW : Option Int → Value
  | none => .nilIface
  | some c => .iface 0 (.int .i64 c)
theorem errW_none : errW none = .nilIface := rfl
theorem errW_some (c : Int) : errW (some c) = .iface 0 (.int .i64 c) := rfl

theorem info3 : (Try.prog.info? 3).map (fun i => (i.zero, i.size, i.bytes)) = some (some (.int .i64 0), 1, 8) := by kernel_rfl
-- the values' own types

end Go.Proofs.Ytmkmodfnpojgkaa.PCalcSums
