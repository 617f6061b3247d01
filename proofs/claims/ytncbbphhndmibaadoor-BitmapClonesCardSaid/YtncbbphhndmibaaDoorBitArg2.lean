/- Proved: the laws BitmapSteps, BitmapClones of package scutagelaw05 over any arguments that read as data. -/
import Derived.Test.YtncbbphhndmibaaDoorBitArg
import Derived.Test.YtncbbphhndmibaaDoorBitSteps
import Derived.Test.YtncbbphhndmibaaDoorBitClones
namespace Go.Proofs.YtncbbphhndmibaaDoor.BitArg2
open Go.RowKit Go.Proofs.YtncbbphhndmibaaDoor.H Go.Proofs.YtncbbphhndmibaaDoor.Nums Go.Proofs.YtncbbphhndmibaaDoor.Bitmap Go.Proofs.YtncbbphhndmibaaDoor.BitLaw Go.ChangeShapes Go.WideShapes

theorem cellsI : Tryd.prog.cellsOf 3 = 1 := by kernel_rfl
section
variable {H : Type} {enc : TypeId × Value → H} {w : World} {base : Nat} {spare : Nat → Bool} {held : Bool}
theorem num_of (n : Nat) (cs : List Value) (y : DataW H × List MemPlace) (h : DataW.trod enc Tryd.prog w base spare held n 3 cs = some y) : ∃ x : Int, cs = [.int .i64 x] ∧ True := by
  obtain ⟨x, rfl, _, _⟩ := DataW.trod_int Tryd.underlying3 h
  exact ⟨x, rfl, trivial⟩
theorem open_nums {a0 : Option Addr} {len cap : Nat} {d : DataW H} {p : List MemPlace} (h : DataW.Trod enc Tryd.prog w base spare held 22 (.slice a0 len cap) d p) :
    ∃ l : List Int, l.length = len ∧ (∀ x ∈ l, True) ∧ Rd w (.slice a0 len cap) len 1 (ints l) :=
  Arg.open_row (fun x : Int => [Value.int .i64 x]) (fun _ => True) (by decide) (fun _ => rfl) (fun x u hu => by simp at hu; subst hu; rfl) Tryd.underlying22 cellsI num_of h
end
theorem steps_law {w : World} (n : Int) (_hn : (Lit.int .i64 n).wf = true) (v : Value) (l : List Int) (_hg : ∀ x ∈ l, True) (hr : Rd w v l.length 1 (ints l)) (ht : Tab w) :
    Calls Tryd.prog 3 #[.int .i64 n, v] w (Same w (.bool true)) := BitSteps.steps_any n v l w ht hr
theorem clones_law {w : World} (n : Int) (_hn : (Lit.int .i64 n).wf = true) (va : Value) (la : List (Int × Int)) (_ga : ∀ x ∈ la, True) (ha : Rd w va la.length 2 (calls la))
    (vc : Value) (lc : List (Int × Int)) (_gc : ∀ x ∈ lc, True) (hc : Rd w vc lc.length 2 (calls lc)) (vd : Value) (ld : List (Int × Int)) (_gd : ∀ x ∈ ld, True) (hd : Rd w vd ld.length 2 (calls ld)) (ht : Tab w) :
    Calls Tryd.prog 5 #[.int .i64 n, va, vc, vd] w (Same w (.bool true)) := BitClones.clones_any n va vc vd la lc ld w ht ha hc hd

end Go.Proofs.YtncbbphhndmibaaDoor.BitArg2
