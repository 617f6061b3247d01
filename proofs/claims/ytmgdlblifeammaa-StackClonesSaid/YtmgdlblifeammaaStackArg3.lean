/- Proved: the law StackClones of package scutagelaw17 over any arguments that read as data. -/
import Derived.Test.YtmgdlblifeammaaStackClones
import Derived.Test.YtmgdlblifeammaaStackArg2
namespace Go.Proofs.Ytmgdlblifeammaa.StackArg
open Go.RowKit Go.Proofs.Ytmgdlblifeammaa.H Go.Proofs.Ytmgdlblifeammaa.Stack Go.Proofs.Ytmgdlblifeammaa.StackLaw Go.Proofs.Ytmgdlblifeammaa.StackRuns Go.Proofs.Ytmgdlblifeammaa.StackTop Go.ChangeShapes Go.WideShapes

variable {w : World}
theorem clones_law (n : Int) (_hn : (Lit.int .i64 n).wf = true)
    (va : Value) (la : List (Int × Int × Int)) (_ga : ∀ x ∈ la, True) (ha : Rd w va la.length 3 (calls la)) (_ba : la.length * Try.prog.bytesOf 52 ≤ reachBytes)
    (vb : Value) (lb : List (Int × Int × Int)) (_gb : ∀ x ∈ lb, True) (hb : Rd w vb lb.length 3 (calls lb)) (_bb : lb.length * Try.prog.bytesOf 52 ≤ reachBytes)
    (vc : Value) (lc : List (Int × Int × Int)) (_gc : ∀ x ∈ lc, True) (hc : Rd w vc lc.length 3 (calls lc)) (_bc : lc.length * Try.prog.bytesOf 52 ≤ reachBytes) :
    Calls Try.prog 5 #[.int .i64 n, va, vb, vc] w (Same w (.bool true)) := clones_any n va vb vc la lb lc w ha hb hc

end Go.Proofs.Ytmgdlblifeammaa.StackArg
