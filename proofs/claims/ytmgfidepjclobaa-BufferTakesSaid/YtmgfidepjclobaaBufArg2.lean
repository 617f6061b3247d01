/- Proved: the law BufferTakes of package scutagelaw16 over any arguments that read as data. -/
import Derived.Test.YtmgfidepjclobaaBufTakes
namespace Go.Proofs.Ytmgfidepjclobaa.BufArg2
open Go.RowKit Go.Proofs.Ytmgfidepjclobaa.H Go.Proofs.Ytmgfidepjclobaa.Nums Go.ChangeShapes Go.WideShapes

theorem cellsI : Try.prog.cellsOf 3 = 1 := by kernel_rfl
variable {H : Type} {enc : TypeId × Value → H} {w : World} {base : Nat} {spare : Nat → Bool} {held : Bool}
theorem num_of (n : Nat) (cs : List Value) (y : DataW H × List MemPlace) (h : DataW.trod enc Try.prog w base spare held n 3 cs = some y) : ∃ x : Int, cs = [.int .i64 x] ∧ True := by
  obtain ⟨x, rfl, _, _⟩ := DataW.trod_int Try.underlying3 h
  exact ⟨x, rfl, trivial⟩
theorem open_nums {a0 : Option Addr} {len cap : Nat} {d : DataW H} {p : List MemPlace} (h : DataW.Trod enc Try.prog w base spare held 32 (.slice a0 len cap) d p) :
    ∃ l : List Int, l.length = len ∧ (∀ x ∈ l, True) ∧ Rd w (.slice a0 len cap) len 1 (ints l) :=
  Arg.open_row (fun x : Int => [Value.int .i64 x]) (fun _ => True) (by decide) (fun _ => rfl) (fun x u hu => by simp at hu; subst hu; rfl) Try.underlying32 cellsI num_of h

theorem takes_law (v : Value) (l : List Int) (_g : ∀ x ∈ l, True) (h : Rd w v l.length 1 (ints l)) (_hb : l.length * Try.prog.bytesOf 3 ≤ reachBytes)
    (v2 : Value) (l2 : List Int) (_g2 : ∀ x ∈ l2, True) (h2 : Rd w v2 l2.length 1 (ints l2)) (_hb2 : l2.length * Try.prog.bytesOf 3 ≤ reachBytes) (t : Int) (_ht : (Lit.int .i64 t).wf = true) (u : Int) (_hu : (Lit.int .i64 u).wf = true) :
    Calls Try.prog 4 #[v, v2, .int .i64 t, .int .i64 u] w (Same w (.bool true)) := BufTakes.takes_any v v2 l l2 t u w h h2

end Go.Proofs.Ytmgfidepjclobaa.BufArg2
