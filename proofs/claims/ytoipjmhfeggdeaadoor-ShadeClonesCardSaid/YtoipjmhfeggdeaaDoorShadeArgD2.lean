/- Proved: the law ShadeClones of package scutagelaw18 over any arguments that read as data. -/
import Derived.Test.YtoipjmhfeggdeaaDoorShadeClones
import Derived.Test.YtoipjmhfeggdeaaDoorShadeArgD
namespace Go.Proofs.YtoipjmhfeggdeaaDoor.ShadeArgD
open Go.RowKit Go.Proofs.YtoipjmhfeggdeaaDoor.H Go.Proofs.YtoipjmhfeggdeaaDoor.Nums Go.Proofs.YtoipjmhfeggdeaaDoor.ShadeRun Go.ChangeShapes Go.WideShapes

theorem clones_law {w : World} (n : Int) (_hn : (Lit.int .i64 n).wf = true) (va : Value) (la : List (Int × Int × Int)) (_ga : ∀ x ∈ la, True) (ha : Rd w va la.length 3 (calls la))
    (vb : Value) (lb : List (Int × Int × Int)) (_gb : ∀ x ∈ lb, True) (hb : Rd w vb lb.length 3 (calls lb)) (vc : Value) (lc : List (Int × Int × Int)) (_gc : ∀ x ∈ lc, True) (hc : Rd w vc lc.length 3 (calls lc)) (ht : Bitmap.Tab w) :
    Calls Tryd.prog 4 #[.int .i64 n, va, vb, vc] w (Same w (.bool true)) := ShadeClones.clones_any n va vb vc la lb lc w ht ha hb hc

end Go.Proofs.YtoipjmhfeggdeaaDoor.ShadeArgD
