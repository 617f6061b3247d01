/- Proved: the law EpochClones of package scutagelaw15 over any arguments that read as data. -/
import Derived.Test.YtneogdjogdbmcaaEpochClones
import Derived.Test.YtneogdjogdbmcaaEpochArg
namespace Go.Proofs.Ytneogdjogdbmcaa.EpochArg3
open Go.RowKit Go.Proofs.Ytneogdjogdbmcaa.H Go.Proofs.Ytneogdjogdbmcaa.Nums Go.Proofs.Ytneogdjogdbmcaa.EpochAgrees Go.ChangeShapes Go.WideShapes

theorem clones_law {w : World} (n : Int) (_hn : (Lit.int .i64 n).wf = true)
    (va : Value) (la : List (Int × Int)) (_ga : ∀ x ∈ la, True) (ha : Rd w va la.length 2 (calls la)) (_ba : la.length * Try.prog.bytesOf 35 ≤ reachBytes)
    (vb : Value) (lb : List (Int × Int)) (_gb : ∀ x ∈ lb, True) (hb : Rd w vb lb.length 2 (calls lb)) (_bb : lb.length * Try.prog.bytesOf 35 ≤ reachBytes)
    (vc : Value) (lc : List (Int × Int)) (_gc : ∀ x ∈ lc, True) (hc : Rd w vc lc.length 2 (calls lc)) (_bc : lc.length * Try.prog.bytesOf 35 ≤ reachBytes) :
    Calls Try.prog 5 #[.int .i64 n, va, vb, vc] w (Same w (.bool true)) := EpochClones.clones_any n va vb vc la lb lc w ha hb hc

end Go.Proofs.Ytneogdjogdbmcaa.EpochArg3
