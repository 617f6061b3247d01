/- Proved: the law ShadeRuns of package scutagelaw18 over any arguments that read as data. -/
import Derived.Test.YtoipjmhfeggdeaaDoorShadeRun
import Derived.Test.YtoipjmhfeggdeaaDoorArg
namespace Go.Proofs.YtoipjmhfeggdeaaDoor.ShadeArgD
open Go.RowKit Go.Proofs.YtoipjmhfeggdeaaDoor.H Go.Proofs.YtoipjmhfeggdeaaDoor.Nums Go.Proofs.YtoipjmhfeggdeaaDoor.ShadeRun Go.ChangeShapes Go.WideShapes

theorem cellsO : Tryd.prog.cellsOf 31 = 3 := by kernel_rfl
section
variable {H : Type} {enc : TypeId × Value → H} {w : World} {base : Nat} {spare : Nat → Bool} {held : Bool}
theorem op_of (n : Nat) (cs : List Value) (y : DataW H × List MemPlace) (h : DataW.trod enc Tryd.prog w base spare held n 31 cs = some y) : ∃ p : Int × Int × Int, cs = [.int .i64 p.1, .int .i64 p.2.1, .int .i64 p.2.2] ∧ True := by
  obtain ⟨xs, hl, rfl⟩ := Arg.ints_of_struct Tryd.underlying31 (by kernel_rfl) (by kernel_rfl) (by
    intro j f hj
    match j, hj with
    | 0, hj => injection hj with hj; subst hj; exact Tryd.underlying3
    | 1, hj => injection hj with hj; subst hj; exact Tryd.underlying3
    | 2, hj => injection hj with hj; subst hj; exact Tryd.underlying3) h
  match xs, hl with
  | [k, t, a], _ => exact ⟨(k, t, a), rfl, trivial⟩
theorem open_calls {a0 : Option Addr} {len cap : Nat} {d : DataW H} {p : List MemPlace} (h : DataW.Trod enc Tryd.prog w base spare held 22 (.slice a0 len cap) d p) :
    ∃ l : List (Int × Int × Int), l.length = len ∧ (∀ x ∈ l, True) ∧ Rd w (.slice a0 len cap) len 3 (calls l) :=
  Arg.open_row (fun p : Int × Int × Int => [Value.int .i64 p.1, Value.int .i64 p.2.1, Value.int .i64 p.2.2]) (fun _ => True) (by decide) (fun _ => rfl) (fun x u hu => by simp at hu; rcases hu with rfl | rfl | rfl <;> rfl) Tryd.underlying22 cellsO op_of h
end
theorem runs_law {w : World} (n : Int) (_hn : (Lit.int .i64 n).wf = true) (v : Value) (l : List (Int × Int × Int)) (_hg : ∀ x ∈ l, True) (hr : Rd w v l.length 3 (calls l)) (ht : Bitmap.Tab w) :
    Calls Tryd.prog 3 #[.int .i64 n, v] w (Same w (.bool true)) := ShadeRun.runs_any n v l w ht hr

end Go.Proofs.YtoipjmhfeggdeaaDoor.ShadeArgD
