/- Proved: the law BitmapRuns of package scutagelaw05 over any arguments that read as data. -/
import Derived.Test.YtncbbphhndmibaaDoorBitRun
namespace Go.Proofs.YtncbbphhndmibaaDoor.BitArg
open Go.RowKit Go.Proofs.YtncbbphhndmibaaDoor.H Go.Proofs.YtncbbphhndmibaaDoor.Nums Go.Proofs.YtncbbphhndmibaaDoor.Bitmap Go.Proofs.YtncbbphhndmibaaDoor.BitLaw Go.ChangeShapes Go.WideShapes

theorem cellsO : Tryd.prog.cellsOf 49 = 2 := by kernel_rfl
variable {H : Type} {enc : TypeId × Value → H} {w : World} {base : Nat} {spare : Nat → Bool} {held : Bool}
theorem op_of (n : Nat) (cs : List Value) (y : DataW H × List MemPlace) (h : DataW.trod enc Tryd.prog w base spare held n 49 cs = some y) : ∃ p : Int × Int, cs = [.int .i64 p.1, .int .i64 p.2] ∧ True := by
  obtain ⟨xs, hl, rfl⟩ := Arg.ints_of_struct Tryd.underlying49 (by kernel_rfl) (by kernel_rfl) (by
    intro j f hj
    match j, hj with
    | 0, hj => injection hj with hj; subst hj; exact Tryd.underlying3
    | 1, hj => injection hj with hj; subst hj; exact Tryd.underlying3) h
  match xs, hl with
  | [k, t], _ => exact ⟨(k, t), rfl, trivial⟩
theorem open_calls {a0 : Option Addr} {len cap : Nat} {d : DataW H} {p : List MemPlace} (h : DataW.Trod enc Tryd.prog w base spare held 31 (.slice a0 len cap) d p) :
    ∃ l : List (Int × Int), l.length = len ∧ (∀ x ∈ l, True) ∧ Rd w (.slice a0 len cap) len 2 (calls l) :=
  Arg.open_row (fun p : Int × Int => [Value.int .i64 p.1, Value.int .i64 p.2]) (fun _ => True) (by decide) (fun _ => rfl) (fun x u hu => by simp at hu; rcases hu with rfl | rfl <;> rfl) Tryd.underlying31 cellsO op_of h

theorem runs_law {w : World} (n : Int) (_hn : (Lit.int .i64 n).wf = true) (v : Value) (l : List (Int × Int)) (_hg : ∀ x ∈ l, True) (hr : Rd w v l.length 2 (calls l)) (ht : Tab w) :
    Calls Tryd.prog 4 #[.int .i64 n, v] w (Same w (.bool true)) := BitRun.runs_any n v l w ht hr

end Go.Proofs.YtncbbphhndmibaaDoor.BitArg
