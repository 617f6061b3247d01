/- Proved: the law ShadeOnce of package scutagelaw18 over any arguments that read as data. -/
import Derived.Test.YtoipjmhfeggdeaaShadeOnce
import Derived.Test.YtoipjmhfeggdeaaArg
namespace Go.Proofs.Ytoipjmhfeggdeaa.ShadeArg
open Go.RowKit Go.Proofs.Ytoipjmhfeggdeaa.H Go.Proofs.Ytoipjmhfeggdeaa.Nums Go.ChangeShapes Go.WideShapes

theorem cellsI : Try.prog.cellsOf 3 = 1 := by kernel_rfl
variable {H : Type} {enc : TypeId × Value → H} {w : World} {base : Nat} {spare : Nat → Bool} {held : Bool}
theorem num_of (n : Nat) (cs : List Value) (y : DataW H × List MemPlace) (h : DataW.trod enc Try.prog w base spare held n 3 cs = some y) : ∃ x : Int, cs = [.int .i64 x] ∧ True := by
  obtain ⟨x, rfl, _, _⟩ := DataW.trod_int Try.underlying3 h
  exact ⟨x, rfl, trivial⟩
theorem open_nums {a0 : Option Addr} {len cap : Nat} {d : DataW H} {p : List MemPlace} (h : DataW.Trod enc Try.prog w base spare held 22 (.slice a0 len cap) d p) :
    ∃ l : List Int, l.length = len ∧ (∀ x ∈ l, True) ∧ Rd w (.slice a0 len cap) len 1 (ints l) :=
  Arg.open_row (fun x : Int => [Value.int .i64 x]) (fun _ => True) (by decide) (fun _ => rfl) (fun x u hu => by simp at hu; subst hu; rfl) Try.underlying22 cellsI num_of h

theorem once_law (n : Int) (_hn : (Lit.int .i64 n).wf = true) (v : Value) (l : List Int) (_hg : ∀ x ∈ l, True) (hr : Rd w v l.length 1 (ints l)) (_hb : l.length * Try.prog.bytesOf 3 ≤ reachBytes) :
    Calls Try.prog 3 #[.int .i64 n, v] w (Same w (.bool true)) := ShadeOnce.once_any n v l w hr

end Go.Proofs.Ytoipjmhfeggdeaa.ShadeArg
