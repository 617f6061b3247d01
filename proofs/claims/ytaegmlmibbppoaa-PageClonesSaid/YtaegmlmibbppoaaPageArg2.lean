/- Proved: the law PageRuns of package scutagelaw09 over any arguments that read as data. -/
import Derived.Test.YtaegmlmibbppoaaPageRun
import Derived.Test.YtaegmlmibbppoaaPageArg
namespace Go.Proofs.Ytaegmlmibbppoaa.PageArg2
open Go.RowKit Go.Proofs.Ytaegmlmibbppoaa.H Go.Proofs.Ytaegmlmibbppoaa.Nums Go.Proofs.Ytaegmlmibbppoaa.PageLaw Go.Proofs.Ytaegmlmibbppoaa.PageArg Go.ChangeShapes Go.WideShapes

theorem wf_bounds {x : Int} (h : (Lit.int .i64 x).wf = true) : -9223372036854775808 ≤ x ∧ x ≤ 9223372036854775807 := by
  simp only [Lit.wf, Bool.and_eq_true, decide_eq_true_eq] at h
  have e1 : IntKind.i64.min = -9223372036854775808 := by decide
  have e2 : IntKind.i64.max = 9223372036854775807 := by decide
  rw [e1, e2] at h
  exact h
theorem fits_of {l : List (Int × Int)} (h : ∀ x ∈ l, Fit x) : PageRun.Fits l := fun x hx => wf_bounds (h x hx).2
theorem runs_law {w : World} (n : Int) (_hn : (Lit.int .i64 n).wf = true) (v : Value) (l : List (Int × Int)) (hg : ∀ x ∈ l, Fit x) (hr : Rd w v l.length 2 (calls l)) (_hb : l.length * Try.prog.bytesOf 33 ≤ reachBytes) :
    Calls Try.prog 3 #[.int .i64 n, v] w (Same w (.bool true)) := PageRun.runs_any n v l (fits_of hg) w hr

end Go.Proofs.Ytaegmlmibbppoaa.PageArg2
