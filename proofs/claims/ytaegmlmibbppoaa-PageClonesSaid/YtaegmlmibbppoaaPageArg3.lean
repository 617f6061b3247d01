/- Proved: the law PageClones of package scutagelaw09 over any arguments that read as data. -/
import Derived.Test.YtaegmlmibbppoaaPageClones
import Derived.Test.YtaegmlmibbppoaaPageArg2
namespace Go.Proofs.Ytaegmlmibbppoaa.PageArg3
open Go.RowKit Go.Proofs.Ytaegmlmibbppoaa.H Go.Proofs.Ytaegmlmibbppoaa.Nums Go.Proofs.Ytaegmlmibbppoaa.PageLaw Go.Proofs.Ytaegmlmibbppoaa.PageArg Go.Proofs.Ytaegmlmibbppoaa.PageArg2 Go.ChangeShapes Go.WideShapes

theorem clones_law {w : World} (n : Int) (_hn : (Lit.int .i64 n).wf = true)
    (va : Value) (la : List (Int × Int)) (ga : ∀ x ∈ la, Fit x) (ha : Rd w va la.length 2 (calls la)) (_ba : la.length * Try.prog.bytesOf 33 ≤ reachBytes)
    (vb : Value) (lb : List (Int × Int)) (gb : ∀ x ∈ lb, Fit x) (hb : Rd w vb lb.length 2 (calls lb)) (_bb : lb.length * Try.prog.bytesOf 33 ≤ reachBytes)
    (vc : Value) (lc : List (Int × Int)) (gc : ∀ x ∈ lc, Fit x) (hc : Rd w vc lc.length 2 (calls lc)) (_bc : lc.length * Try.prog.bytesOf 33 ≤ reachBytes) :
    Calls Try.prog 5 #[.int .i64 n, va, vb, vc] w (Same w (.bool true)) := PageClones.clones_any n va vb vc la lb lc (fits_of ga) (fits_of gb) (fits_of gc) w ha hb hc

end Go.Proofs.Ytaegmlmibbppoaa.PageArg3
