/- Proved: the law BufferClones of package scutagelaw16 over any arguments that read as data. -/
import Derived.Test.YtmgfidepjclobaaBufClones
import Derived.Test.YtmgfidepjclobaaBufArg
namespace Go.Proofs.Ytmgfidepjclobaa.BufArg3
open Go.RowKit Go.Proofs.Ytmgfidepjclobaa.H Go.Proofs.Ytmgfidepjclobaa.Nums Go.Proofs.Ytmgfidepjclobaa.BufLaw Go.ChangeShapes Go.WideShapes

theorem clones_law {w : World} (n : Int) (_hn : (Lit.int .i64 n).wf = true)
    (va : Value) (la : List (Int × Int × Int)) (_ga : ∀ x ∈ la, True) (ha : Rd w va la.length 3 (calls la)) (_ba : la.length * Try.prog.bytesOf 46 ≤ reachBytes)
    (vb : Value) (lb : List (Int × Int × Int)) (_gb : ∀ x ∈ lb, True) (hb : Rd w vb lb.length 3 (calls lb)) (_bb : lb.length * Try.prog.bytesOf 46 ≤ reachBytes)
    (vc : Value) (lc : List (Int × Int × Int)) (_gc : ∀ x ∈ lc, True) (hc : Rd w vc lc.length 3 (calls lc)) (_bc : lc.length * Try.prog.bytesOf 46 ≤ reachBytes) :
    Calls Try.prog 5 #[.int .i64 n, va, vb, vc] w (Same w (.bool true)) := BufClones.clones_any n va vb vc la lb lc w ha hb hc

end Go.Proofs.Ytmgfidepjclobaa.BufArg3
