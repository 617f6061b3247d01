/- Proved: the law MemMoves of package scutagelaw04 over any arguments that read as data. -/
import Derived.Test.YticlhahjgiaieaaMemMoves
import Derived.Test.YticlhahjgiaieaaMemArg
namespace Go.Proofs.Yticlhahjgiaieaa.MemArg
open Go.RowKit Go.Proofs.Yticlhahjgiaieaa.H Go.Proofs.Yticlhahjgiaieaa.Words Go.Proofs.Yticlhahjgiaieaa.Mem Go.Proofs.Yticlhahjgiaieaa.MemLaw Go.Proofs.Yticlhahjgiaieaa.MemRun Go.Proofs.Yticlhahjgiaieaa.MemTop Go.ChangeShapes Go.WideShapes

variable {w : World}
theorem moves_law (v : Value) (l : List Int) (_g : ∀ x ∈ l, True) (h : Rd w v l.length 1 (ints l)) (hb : l.length * Try.prog.bytesOf 2 ≤ reachBytes) (a : Int) (_ha : (Lit.int .i64 a).wf = true) (b : Int) (_hb : (Lit.int .i64 b).wf = true) (n : Int) (_hn : (Lit.int .i64 n).wf = true) :
    Calls Try.prog 4 #[v, .int .i64 a, .int .i64 b, .int .i64 n] w (Same w (.bool true)) := moves_any v l a b n w h (by rw [bytesW, reachBytes] at hb; omega)

end Go.Proofs.Yticlhahjgiaieaa.MemArg
