/-
  No cell of these rows narrows 'for every input' (looked for: loops, veiled, ifaces, maps, wideKeys, modest, calm, conditions, laid).
  DERIVED. THE GIVEN ROWS OF THIS SEAT. 3 by the template 'for every input the law returns true; each argument reads behind the call as it read before'; 0 by the template 'total and deterministic' (their statements: YtikoiaeoajbobaaTotals.lean).
  GIVEN WITH THE SEED: the statements are not yours to turn. If you find one false, say at which input.
  Laid BY PROGRAM, IN A SANDBOX (cutbox-rows.mjs): the forced cells as the released guide's own fill.sh prints them over the translation 031274a34e91b314… (all of the seat's roots in one cut). By AI agents, Wed Nov 11 2026. No macro, syntax, notation, axiom, sorry.
-/
import Derived.Test.YtikoiaeoajbobaaChecked
import GoSem.Claim
import GoSem.ClaimJoined
import GoSem.ClaimMapViews
import Derived.JoinedTies
import Derived.KernelRfl
namespace Go.Proofs.Ytikoiaeoajbobaa
/- THE CELL 'sum', in the pinned program and in every row, IS THE sha256 OF THE DUMP (.gsa) THAT YtikoiaeoajbobaaProg.lean LOADS. Nothing in Lean hashes anything: it is a label: what it is worth is what the hold of that sum in a sandbox is worth. -/
noncomputable def Try.pinned : Pinned := { name := "ytikoiaeoajbobaa", sum := "031274a34e91b314fff453e6dffc82572ee90fddfbed9a12481a3ef0501aa766", checked := Try.checked }
namespace Rows
def none {H : Type} : Left H := { results := [], args := [] }

/-- 'scutagelaw07.GeoPages': WHATEVER THE INPUT: true; the input reads as it did. -/
def geoPagesSpec : ChangeSpec := { name := "geoPages", fn := fun _ => fun
  | [d1, d2, d3] => { results := [.lit (.bool true)], args := [d1, d2, d3] }
  | _ => none }
def geoPagesRow : OpenClaim := { program := "ytikoiaeoajbobaa", sum := "031274a34e91b314fff453e6dffc82572ee90fddfbed9a12481a3ef0501aa766", func := "scutage/scutagelaw07.GeoPages", spec := "geoPages", apart := false }
def GeoPagesSaid : Prop := geoPagesRow.holds Try.pinned (OpenSpec.ofChange geoPagesSpec)

/-- ITS FALSE NEIGHBOUR: 'it returns false'. Refute it at one input. -/
def geoPagesWrong : ChangeSpec := { name := "geoPages", fn := fun _ => fun
  | [d1, d2, d3] => { results := [.lit (.bool false)], args := [d1, d2, d3] }
  | _ => none }
def GeoPagesWrongFalsely : Prop := geoPagesRow.holds Try.pinned (OpenSpec.ofChange geoPagesWrong)

/-- 'scutagelaw07.GeoCells': WHATEVER THE INPUT: true; the input reads as it did. -/
def geoCellsSpec : ChangeSpec := { name := "geoCells", fn := fun _ => fun
  | [d1, d2, d3, d4] => { results := [.lit (.bool true)], args := [d1, d2, d3, d4] }
  | _ => none }
def geoCellsRow : OpenClaim := { program := "ytikoiaeoajbobaa", sum := "031274a34e91b314fff453e6dffc82572ee90fddfbed9a12481a3ef0501aa766", func := "scutage/scutagelaw07.GeoCells", spec := "geoCells", apart := false }
def GeoCellsSaid : Prop := geoCellsRow.holds Try.pinned (OpenSpec.ofChange geoCellsSpec)

/-- ITS FALSE NEIGHBOUR: 'it returns false'. Refute it at one input. -/
def geoCellsWrong : ChangeSpec := { name := "geoCells", fn := fun _ => fun
  | [d1, d2, d3, d4] => { results := [.lit (.bool false)], args := [d1, d2, d3, d4] }
  | _ => none }
def GeoCellsWrongFalsely : Prop := geoCellsRow.holds Try.pinned (OpenSpec.ofChange geoCellsWrong)

/-- 'scutagelaw07.GeoBack': WHATEVER THE INPUT: true; the input reads as it did. -/
def geoBackSpec : ChangeSpec := { name := "geoBack", fn := fun _ => fun
  | [d1, d2, d3, d4, d5] => { results := [.lit (.bool true)], args := [d1, d2, d3, d4, d5] }
  | _ => none }
def geoBackRow : OpenClaim := { program := "ytikoiaeoajbobaa", sum := "031274a34e91b314fff453e6dffc82572ee90fddfbed9a12481a3ef0501aa766", func := "scutage/scutagelaw07.GeoBack", spec := "geoBack", apart := false }
def GeoBackSaid : Prop := geoBackRow.holds Try.pinned (OpenSpec.ofChange geoBackSpec)

/-- ITS FALSE NEIGHBOUR: 'it returns false'. Refute it at one input. -/
def geoBackWrong : ChangeSpec := { name := "geoBack", fn := fun _ => fun
  | [d1, d2, d3, d4, d5] => { results := [.lit (.bool false)], args := [d1, d2, d3, d4, d5] }
  | _ => none }
def GeoBackWrongFalsely : Prop := geoBackRow.holds Try.pinned (OpenSpec.ofChange geoBackWrong)

/- THE SECOND FORM. 'bulk': how many values and letters a reading holds, each counted each time it is reached (what is shared counts as often as it is met; a slice's spare places count too). A statement '..UptoSaid' is the law's where the arguments, and the package variables that the reading takes, are together of bulk at most 1048576: NARROWER than '..Said'. Prove '..Said' where nothing that the law and all that it calls make is longer than what came in: it says more and counts as full. Else prove '..UptoSaid'. A law counts once. -/
mutual
def uptoBulk {H : Type} : DataW H → Nat
  | .lit (.string bytes) => bytes.length + 1
  | .lit _ => 1
  | .nil => 1
  | .ptr d => uptoBulk d + 1
  | .slice elems spare => uptoBulkAll elems + uptoBulkAll spare + 1
  | .agg parts => uptoBulkAll parts + 1
  | .iface _ d => uptoBulk d + 1
  | .map entries => uptoBulkEntries entries + 1
  | .held _ => 1
def uptoBulkAll {H : Type} : List (DataW H) → Nat
  | [] => 0
  | d :: r => uptoBulk d + uptoBulkAll r
def uptoBulkEntries {H : Type} : List (Lit × DataW H) → Nat
  | [] => 0
  | x :: r => uptoBulkEntry x + uptoBulkEntries r
def uptoBulkEntry {H : Type} : Lit × DataW H → Nat
  | (.string bytes, d) => bytes.length + uptoBulk d + 1
  | (_, d) => uptoBulk d + 1
 end
def uptoSmall : (H : Type) → List (DataW H) → Bool := fun _ ds => decide (uptoBulkAll ds ≤ 1048576)
def OpenSpec.upto (s : _root_.Go.ChangeSpec) : _root_.Go.OpenSpec := { _root_.Go.OpenSpec.ofChange s with cond := some uptoSmall }

/-- 'scutagelaw07.GeoPages', WHERE WHAT IT READS IS OF BULK AT MOST 1048576: true; the input reads as it did. -/
def geoPagesUptoRow : OpenClaim := { program := "ytikoiaeoajbobaa", sum := "031274a34e91b314fff453e6dffc82572ee90fddfbed9a12481a3ef0501aa766", func := "scutage/scutagelaw07.GeoPages", spec := "geoPages", apart := false, narrowed := true }
def GeoPagesUptoSaid : Prop := geoPagesUptoRow.holds Try.pinned (OpenSpec.upto geoPagesSpec)

/-- 'scutagelaw07.GeoCells', WHERE WHAT IT READS IS OF BULK AT MOST 1048576: true; the input reads as it did. -/
def geoCellsUptoRow : OpenClaim := { program := "ytikoiaeoajbobaa", sum := "031274a34e91b314fff453e6dffc82572ee90fddfbed9a12481a3ef0501aa766", func := "scutage/scutagelaw07.GeoCells", spec := "geoCells", apart := false, narrowed := true }
def GeoCellsUptoSaid : Prop := geoCellsUptoRow.holds Try.pinned (OpenSpec.upto geoCellsSpec)

/-- 'scutagelaw07.GeoBack', WHERE WHAT IT READS IS OF BULK AT MOST 1048576: true; the input reads as it did. -/
def geoBackUptoRow : OpenClaim := { program := "ytikoiaeoajbobaa", sum := "031274a34e91b314fff453e6dffc82572ee90fddfbed9a12481a3ef0501aa766", func := "scutage/scutagelaw07.GeoBack", spec := "geoBack", apart := false, narrowed := true }
def GeoBackUptoSaid : Prop := geoBackUptoRow.holds Try.pinned (OpenSpec.upto geoBackSpec)

end Rows
end Go.Proofs.Ytikoiaeoajbobaa
