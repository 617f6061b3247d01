/- Proved: the laws' arguments of package scutagelaw17 that are lists of calls, read as lists; and the laws' walks over them. -/
import Derived.Test.YtmgdlblifeammaaStackTop
import Derived.Test.YtmgdlblifeammaaStackArg
namespace Go.Proofs.Ytmgdlblifeammaa.StackArg
open Go.RowKit Go.Proofs.Ytmgdlblifeammaa.H Go.Proofs.Ytmgdlblifeammaa.Stack Go.Proofs.Ytmgdlblifeammaa.StackLaw Go.Proofs.Ytmgdlblifeammaa.StackRuns Go.Proofs.Ytmgdlblifeammaa.StackTop Go.ChangeShapes Go.WideShapes

theorem cellsO : Try.prog.cellsOf 52 = 3 := by kernel_rfl
theorem bytesO : Try.prog.bytesOf 52 = 24 := by kernel_rfl

variable {H : Type} {enc : TypeId × Value → H} {w : World} {base : Nat} {spare : Nat → Bool} {held : Bool}

theorem op_of (n : Nat) (cs : List Value) (y : DataW H × List MemPlace) (h : DataW.trod enc Try.prog w base spare held n 52 cs = some y) : ∃ x : Int × Int × Int, cs = [.int .i64 x.1, .int .i64 x.2.1, .int .i64 x.2.2] ∧ True := by
  obtain ⟨y0, y1, m, rfl, hl, h0, h1⟩ := trod_struct2 Try.underlying52 h
  rw [cellsO] at hl
  obtain ⟨a, ea, _, _⟩ := DataW.trod_int Try.underlying3 h0
  obtain ⟨b, eb, _⟩ := entry_of _ _ _ h1
  rw [cellsI] at ea
  rw [cellsE] at eb
  match cs, hl with
  | [c0, c1, c2], _ =>
    simp at ea eb
    obtain ⟨rfl, rfl⟩ := eb
    subst ea
    exact ⟨(a, b.1, b.2), rfl, trivial⟩

theorem open_calls {a0 : Option Addr} {len cap : Nat} {d : DataW H} {p : List MemPlace} (h : DataW.Trod enc Try.prog w base spare held 33 (.slice a0 len cap) d p) :
    ∃ l : List (Int × Int × Int), l.length = len ∧ (∀ x ∈ l, True) ∧ Rd w (.slice a0 len cap) len 3 (calls l) :=
  Arg.open_row (fun x : Int × Int × Int => [.int .i64 x.1, .int .i64 x.2.1, .int .i64 x.2.2]) (fun _ => True) (by decide) (fun _ => rfl) (fun x u hu => by simp at hu; rcases hu with rfl | rfl | rfl <;> rfl) Try.underlying33 cellsO op_of h

theorem runs_law (n : Int) (_hn : (Lit.int .i64 n).wf = true) (v : Value) (l : List (Int × Int × Int)) (_hg : ∀ x ∈ l, True) (hr : Rd w v l.length 3 (calls l)) (hb : l.length * Try.prog.bytesOf 52 ≤ reachBytes) :
    Calls Try.prog 4 #[.int .i64 n, v] w (Same w (.bool true)) :=
  runs_any n v l w hr (by rw [bytesO, reachBytes] at hb; omega)

end Go.Proofs.Ytmgdlblifeammaa.StackArg
