/- Proved: the law EpochRuns of package scutagelaw15 over any arguments that read as data. -/
import Derived.Test.YtneogdjogdbmcaaEpochRuns
import Derived.Test.YtneogdjogdbmcaaEpochArg
namespace Go.Proofs.Ytneogdjogdbmcaa.EpochArg2
open Go.RowKit Go.Proofs.Ytneogdjogdbmcaa.H Go.Proofs.Ytneogdjogdbmcaa.Nums Go.Proofs.Ytneogdjogdbmcaa.EpochAgrees Go.ChangeShapes Go.WideShapes

theorem runs_law {w : World} (n : Int) (_hn : (Lit.int .i64 n).wf = true) (v : Value) (l : List (Int × Int)) (_hg : ∀ x ∈ l, True) (hr : Rd w v l.length 2 (calls l)) (_hb : l.length * Try.prog.bytesOf 35 ≤ reachBytes) :
    Calls Try.prog 3 #[.int .i64 n, v] w (Same w (.bool true)) := EpochRuns.runs_any n v l w hr

end Go.Proofs.Ytneogdjogdbmcaa.EpochArg2
