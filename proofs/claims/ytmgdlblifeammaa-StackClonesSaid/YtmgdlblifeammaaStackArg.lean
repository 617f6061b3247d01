/- Proved: the arguments of the laws of package scutagelaw17 read as lists of entries and of calls; and the laws' walks over them. -/
import Derived.Test.YtmgdlblifeammaaStackLaw
import Derived.Test.YtmgdlblifeammaaArg
namespace Go.Proofs.Ytmgdlblifeammaa.StackArg
open Go.RowKit Go.Proofs.Ytmgdlblifeammaa.H Go.Proofs.Ytmgdlblifeammaa.Stack Go.Proofs.Ytmgdlblifeammaa.StackLaw Go.ChangeShapes Go.WideShapes

theorem cellsE : Try.prog.cellsOf 29 = 2 := by kernel_rfl
theorem cellsI : Try.prog.cellsOf 3 = 1 := by kernel_rfl
theorem bytesE : Try.prog.bytesOf 29 = 16 := by kernel_rfl

variable {H : Type} {enc : TypeId × Value → H} {w : World} {base : Nat} {spare : Nat → Bool} {held : Bool}

theorem entry_of (n : Nat) (cs : List Value) (y : DataW H × List MemPlace) (h : DataW.trod enc Try.prog w base spare held n 29 cs = some y) : ∃ x : Int × Int, cs = [.int .i64 x.1, .int .i64 x.2] ∧ True := by
  obtain ⟨y0, y1, m, rfl, hl, h0, h1⟩ := trod_struct2 Try.underlying29 h
  rw [cellsE] at hl
  obtain ⟨a, ea, _, _⟩ := DataW.trod_int Try.underlying3 h0
  obtain ⟨b, eb, _, _⟩ := DataW.trod_int Try.underlying3 h1
  rw [cellsI] at ea eb
  match cs, hl with
  | [c0, c1], _ =>
    simp at ea eb
    subst ea eb
    exact ⟨(a, b), rfl, trivial⟩

theorem open_entries {a0 : Option Addr} {len cap : Nat} {d : DataW H} {p : List MemPlace} (h : DataW.Trod enc Try.prog w base spare held 22 (.slice a0 len cap) d p) :
    ∃ l : List (Int × Int), l.length = len ∧ (∀ x ∈ l, True) ∧ Rd w (.slice a0 len cap) len 2 (ents l) :=
  Arg.open_row (fun x : Int × Int => [.int .i64 x.1, .int .i64 x.2]) (fun _ => True) (by decide) (fun _ => rfl) (fun x u hu => by simp at hu; rcases hu with rfl | rfl <;> rfl) Try.underlying22 cellsE entry_of h

theorem loses_law (n : Int) (_hn : (Lit.int .i64 n).wf = true) (v : Value) (l : List (Int × Int)) (_hg : ∀ x ∈ l, True) (hr : Rd w v l.length 2 (ents l)) (hb : l.length * Try.prog.bytesOf 29 ≤ reachBytes) :
    Calls Try.prog 3 #[.int .i64 n, v] w (Same w (.bool true)) :=
  loses_any n v l w hr (by rw [bytesE, reachBytes] at hb; omega)

end Go.Proofs.Ytmgdlblifeammaa.StackArg
