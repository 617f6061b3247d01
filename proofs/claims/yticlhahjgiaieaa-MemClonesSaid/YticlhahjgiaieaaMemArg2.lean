/- Proved: the laws MemNobody and MemClones of package scutagelaw04 over any arguments that read as data. -/
import Derived.Test.YticlhahjgiaieaaMemTop
import Derived.Test.YticlhahjgiaieaaMemArg
namespace Go.Proofs.Yticlhahjgiaieaa.MemArg
open Go.RowKit Go.Proofs.Yticlhahjgiaieaa.H Go.Proofs.Yticlhahjgiaieaa.Words Go.Proofs.Yticlhahjgiaieaa.Mem Go.Proofs.Yticlhahjgiaieaa.MemLaw Go.Proofs.Yticlhahjgiaieaa.MemRun Go.Proofs.Yticlhahjgiaieaa.MemTop Go.ChangeShapes Go.WideShapes

variable {w : World}
theorem nobody_law (a : Int) (_ha : (Lit.int .i64 a).wf = true) (n : Int) (_hn : (Lit.int .i64 n).wf = true) (x : Int) (_hx : (Lit.int .i64 x).wf = true) :
    Calls Try.prog 6 #[.int .i64 a, .int .i64 n, .int .i64 x] w (Same w (.bool true)) := nobody_any a n x w

theorem clones_law (n : Int) (_hn : (Lit.int .i64 n).wf = true)
    (va : Value) (la : List Cl) (_ga : ∀ x ∈ la, True) (ha : Rd w va la.length 5 (calls la)) (_ba : la.length * Try.prog.bytesOf 49 ≤ reachBytes)
    (vb : Value) (lb : List Cl) (_gb : ∀ x ∈ lb, True) (hb : Rd w vb lb.length 5 (calls lb)) (_bb : lb.length * Try.prog.bytesOf 49 ≤ reachBytes)
    (vc : Value) (lc : List Cl) (_gc : ∀ x ∈ lc, True) (hc : Rd w vc lc.length 5 (calls lc)) (_bc : lc.length * Try.prog.bytesOf 49 ≤ reachBytes) :
    Calls Try.prog 5 #[.int .i64 n, va, vb, vc] w (Same w (.bool true)) := clones_any n va vb vc la lb lc w ha hb hc

end Go.Proofs.Yticlhahjgiaieaa.MemArg
