/- Proved: the law BufferRuns of package scutagelaw16 over any arguments that read as data. -/
import Derived.Test.YtmgfidepjclobaaBufRun
namespace Go.Proofs.Ytmgfidepjclobaa.BufArg
open Go.RowKit Go.Proofs.Ytmgfidepjclobaa.H Go.Proofs.Ytmgfidepjclobaa.Nums Go.Proofs.Ytmgfidepjclobaa.BufLaw Go.ChangeShapes Go.WideShapes

theorem cellsO : Try.prog.cellsOf 46 = 3 := by kernel_rfl
variable {H : Type} {enc : TypeId × Value → H} {w : World} {base : Nat} {spare : Nat → Bool} {held : Bool}
theorem op_of (n : Nat) (cs : List Value) (y : DataW H × List MemPlace) (h : DataW.trod enc Try.prog w base spare held n 46 cs = some y) : ∃ p : Int × Int × Int, cs = [.int .i64 p.1, .int .i64 p.2.1, .int .i64 p.2.2] ∧ True := by
  obtain ⟨xs, hl, rfl⟩ := Arg.ints_of_struct Try.underlying46 (by kernel_rfl) (by kernel_rfl) (by
    intro j f hj
    match j, hj with
    | 0, hj => injection hj with hj; subst hj; exact Try.underlying3
    | 1, hj => injection hj with hj; subst hj; exact Try.underlying3
    | 2, hj => injection hj with hj; subst hj; exact Try.underlying3) h
  match xs, hl with
  | [k, t, a], _ => exact ⟨(k, t, a), rfl, trivial⟩
theorem open_calls {a0 : Option Addr} {len cap : Nat} {d : DataW H} {p : List MemPlace} (h : DataW.Trod enc Try.prog w base spare held 22 (.slice a0 len cap) d p) :
    ∃ l : List (Int × Int × Int), l.length = len ∧ (∀ x ∈ l, True) ∧ Rd w (.slice a0 len cap) len 3 (calls l) :=
  Arg.open_row (fun p : Int × Int × Int => [Value.int .i64 p.1, Value.int .i64 p.2.1, Value.int .i64 p.2.2]) (fun _ => True) (by decide) (fun _ => rfl) (fun x u hu => by simp at hu; rcases hu with rfl | rfl | rfl <;> rfl) Try.underlying22 cellsO op_of h

theorem runs_law (n : Int) (_hn : (Lit.int .i64 n).wf = true) (v : Value) (l : List (Int × Int × Int)) (_hg : ∀ x ∈ l, True) (hr : Rd w v l.length 3 (calls l)) (_hb : l.length * Try.prog.bytesOf 46 ≤ reachBytes) :
    Calls Try.prog 3 #[.int .i64 n, v] w (Same w (.bool true)) := BufRun.runs_any n v l w hr

end Go.Proofs.Ytmgfidepjclobaa.BufArg
