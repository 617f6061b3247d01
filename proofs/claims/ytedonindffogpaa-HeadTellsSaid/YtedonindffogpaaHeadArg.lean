/- Proved: the laws HeadTells and HeadPuts of package scutagelaw10 over any arguments that read as data. -/
import Derived.Test.YtedonindffogpaaHeadPuts
namespace Go.Proofs.Ytedonindffogpaa.HeadArg
open Go.RowKit Go.Proofs.Ytedonindffogpaa.H Go.Proofs.Ytedonindffogpaa.Words Go.Proofs.Ytedonindffogpaa.Mem Go.Proofs.Ytedonindffogpaa.HeadLaw Go.ChangeShapes Go.WideShapes

theorem big_of {x : Int} (h : (Lit.int .i64 x).wf = true) : x / 128 ≤ 72057594037927936 := by
  simp only [Lit.wf, Bool.and_eq_true, decide_eq_true_eq] at h
  have h2 : x ≤ 9223372036854775807 := h.2
  omega

variable {w : World}
theorem tells_law (s : Int) (_hs : (Lit.int .i64 s).wf = true) (n : Int) (_hn : (Lit.int .i64 n).wf = true) (x : Int) (hx : (Lit.int .i64 x).wf = true) :
    Calls Try.prog 3 #[.int .i64 s, .int .i64 n, .int .i64 x] w (Same w (.bool true)) := tells_any s n x w (big_of hx)

theorem puts_law (ws : Int) (_h0 : (Lit.int .i64 ws).wf = true) (a : Int) (_h1 : (Lit.int .i64 a).wf = true) (s : Int) (_h2 : (Lit.int .i64 s).wf = true) (n : Int) (_h3 : (Lit.int .i64 n).wf = true) (i : Int) (_h4 : (Lit.int .i64 i).wf = true) :
    Calls Try.prog 5 #[.int .i64 ws, .int .i64 a, .int .i64 s, .int .i64 n, .int .i64 i] w (Same w (.bool true)) := puts_any ws a s n i w

end Go.Proofs.Ytedonindffogpaa.HeadArg
