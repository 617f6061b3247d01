/- Proved: the law ChainRuns of package scutagelaw08 over any arguments that read as data. -/
import Derived.Test.YtbndmcblkfaheaaChainRuns
namespace Go.Proofs.Ytbndmcblkfaheaa.ChainArg3
open Go.RowKit Go.Proofs.Ytbndmcblkfaheaa.H Go.Proofs.Ytbndmcblkfaheaa.Words Go.ChangeShapes Go.WideShapes

theorem cellsO : Try.prog.cellsOf 35 = 2 := by kernel_rfl
section
variable {H : Type} {enc : TypeId × Value → H} {w : World} {base : Nat} {spare : Nat → Bool} {held : Bool}
theorem op_of (n : Nat) (cs : List Value) (y : DataW H × List MemPlace) (h : DataW.trod enc Try.prog w base spare held n 35 cs = some y) : ∃ p : Int × Int, cs = [.int .i64 p.1, .int .i64 p.2] ∧ True := by
  obtain ⟨xs, hl, rfl⟩ := Arg.ints_of_struct Try.underlying35 (by kernel_rfl) (by kernel_rfl) (by
    intro j f hj
    match j, hj with
    | 0, hj => injection hj with hj; subst hj; exact Try.underlying3
    | 1, hj => injection hj with hj; subst hj; exact Try.underlying3) h
  match xs, hl with
  | [k, t], _ => exact ⟨(k, t), rfl, trivial⟩
theorem open_calls {a0 : Option Addr} {len cap : Nat} {d : DataW H} {p : List MemPlace} (h : DataW.Trod enc Try.prog w base spare held 22 (.slice a0 len cap) d p) :
    ∃ l : List (Int × Int), l.length = len ∧ (∀ x ∈ l, True) ∧ Rd w (.slice a0 len cap) len 2 (Chain.calls l) :=
  Arg.open_row (fun p : Int × Int => [Value.int .i64 p.1, Value.int .i64 p.2]) (fun _ => True) (by decide) (fun _ => rfl) (fun x u hu => by simp at hu; rcases hu with rfl | rfl <;> rfl) Try.underlying22 cellsO op_of h
end
theorem runs_law {w : World} (p : Int) (_hp : (Lit.int .i64 p).wf = true) (k : Int) (_hk : (Lit.int .i64 k).wf = true) (v : Value) (l : List (Int × Int)) (_g : ∀ x ∈ l, True) (hr : Rd w v l.length 2 (Chain.calls l)) (_hb : l.length * Try.prog.bytesOf 35 ≤ reachBytes) :
    Calls Try.prog 3 #[.int .i64 p, .int .i64 k, v] w (Same w (.bool true)) := Chain.runs_any p k v l w hr

end Go.Proofs.Ytbndmcblkfaheaa.ChainArg3
