/-
  No cell of these rows narrows 'for every input' (looked for: loops, veiled, ifaces, maps, wideKeys, modest, calm, conditions, laid).
  DERIVED. THE GIVEN ROWS OF THIS SEAT. 4 by the template 'for every input the law returns true; each argument reads behind the call as it read before'; 0 by the template 'total and deterministic' (their statements: YtmkmodfnpojgkaaTotals.lean).
  GIVEN WITH THE SEED: the statements are not yours to turn. If you find one false, say at which input.
  Laid BY PROGRAM, IN A SANDBOX (cutbox-rows.mjs): the forced cells as the released guide's own fill.sh prints them over the translation d4c157f958afb9e3… (all of the seat's roots in one cut). By AI agents, Wed Nov 11 2026. No macro, syntax, notation, axiom, sorry.
-/
import Derived.Test.YtmkmodfnpojgkaaChecked
import GoSem.Claim
import GoSem.ClaimJoined
import GoSem.ClaimMapViews
import Derived.JoinedTies
import Derived.KernelRfl
namespace Go.Proofs.Ytmkmodfnpojgkaa
/- THE CELL 'sum', in the pinned program and in every row, IS THE sha256 OF THE DUMP (.gsa) THAT YtmkmodfnpojgkaaProg.lean LOADS. Nothing in Lean hashes anything: it is a label: what it is worth is what the hold of that sum in a sandbox is worth. -/
noncomputable def Try.pinned : Pinned := { name := "ytmkmodfnpojgkaa", sum := "d4c157f958afb9e3e60ddd8a1c52a2f5934f1884cafb79314a3f95e4d0aaf983", checked := Try.checked }
namespace Rows
def none {H : Type} : Left H := { results := [], args := [] }

/-- 'scutagelaw01.CalcSums': WHATEVER THE INPUT: true; the input reads as it did. -/
def calcSumsSpec : ChangeSpec := { name := "calcSums", fn := fun _ => fun
  | [d1, d2] => { results := [.lit (.bool true)], args := [d1, d2] }
  | _ => none }
def calcSumsRow : OpenClaim := { program := "ytmkmodfnpojgkaa", sum := "d4c157f958afb9e3e60ddd8a1c52a2f5934f1884cafb79314a3f95e4d0aaf983", func := "scutage/scutagelaw01.CalcSums", spec := "calcSums", apart := false }
def CalcSumsSaid : Prop := calcSumsRow.holds Try.pinned (OpenSpec.ofChange calcSumsSpec)

/-- ITS FALSE NEIGHBOUR: 'it returns false'. Refute it at one input. -/
def calcSumsWrong : ChangeSpec := { name := "calcSums", fn := fun _ => fun
  | [d1, d2] => { results := [.lit (.bool false)], args := [d1, d2] }
  | _ => none }
def CalcSumsWrongFalsely : Prop := calcSumsRow.holds Try.pinned (OpenSpec.ofChange calcSumsWrong)

/-- 'scutagelaw01.CalcClamps': WHATEVER THE INPUT: true; the input reads as it did. -/
def calcClampsSpec : ChangeSpec := { name := "calcClamps", fn := fun _ => fun
  | [d1, d2, d3] => { results := [.lit (.bool true)], args := [d1, d2, d3] }
  | _ => none }
def calcClampsRow : OpenClaim := { program := "ytmkmodfnpojgkaa", sum := "d4c157f958afb9e3e60ddd8a1c52a2f5934f1884cafb79314a3f95e4d0aaf983", func := "scutage/scutagelaw01.CalcClamps", spec := "calcClamps", apart := false }
def CalcClampsSaid : Prop := calcClampsRow.holds Try.pinned (OpenSpec.ofChange calcClampsSpec)

/-- ITS FALSE NEIGHBOUR: 'it returns false'. Refute it at one input. -/
def calcClampsWrong : ChangeSpec := { name := "calcClamps", fn := fun _ => fun
  | [d1, d2, d3] => { results := [.lit (.bool false)], args := [d1, d2, d3] }
  | _ => none }
def CalcClampsWrongFalsely : Prop := calcClampsRow.holds Try.pinned (OpenSpec.ofChange calcClampsWrong)

/-- 'scutagelaw01.CalcTells': WHATEVER THE INPUT: true; the input reads as it did. -/
def calcTellsSpec : ChangeSpec := { name := "calcTells", fn := fun _ => fun
  | [d1, d2] => { results := [.lit (.bool true)], args := [d1, d2] }
  | _ => none }
def calcTellsRow : OpenClaim := { program := "ytmkmodfnpojgkaa", sum := "d4c157f958afb9e3e60ddd8a1c52a2f5934f1884cafb79314a3f95e4d0aaf983", func := "scutage/scutagelaw01.CalcTells", spec := "calcTells", apart := false }
def CalcTellsSaid : Prop := calcTellsRow.holds Try.pinned (OpenSpec.ofChange calcTellsSpec)

/-- ITS FALSE NEIGHBOUR: 'it returns false'. Refute it at one input. -/
def calcTellsWrong : ChangeSpec := { name := "calcTells", fn := fun _ => fun
  | [d1, d2] => { results := [.lit (.bool false)], args := [d1, d2] }
  | _ => none }
def CalcTellsWrongFalsely : Prop := calcTellsRow.holds Try.pinned (OpenSpec.ofChange calcTellsWrong)

/-- 'scutagelaw01.CalcDivides': WHATEVER THE INPUT: true; the input reads as it did. -/
def calcDividesSpec : ChangeSpec := { name := "calcDivides", fn := fun _ => fun
  | [d1, d2] => { results := [.lit (.bool true)], args := [d1, d2] }
  | _ => none }
def calcDividesRow : OpenClaim := { program := "ytmkmodfnpojgkaa", sum := "d4c157f958afb9e3e60ddd8a1c52a2f5934f1884cafb79314a3f95e4d0aaf983", func := "scutage/scutagelaw01.CalcDivides", spec := "calcDivides", apart := false }
def CalcDividesSaid : Prop := calcDividesRow.holds Try.pinned (OpenSpec.ofChange calcDividesSpec)

/-- ITS FALSE NEIGHBOUR: 'it returns false'. Refute it at one input. -/
def calcDividesWrong : ChangeSpec := { name := "calcDivides", fn := fun _ => fun
  | [d1, d2] => { results := [.lit (.bool false)], args := [d1, d2] }
  | _ => none }
def CalcDividesWrongFalsely : Prop := calcDividesRow.holds Try.pinned (OpenSpec.ofChange calcDividesWrong)

/- THE SECOND FORM. 'bulk': how many values and letters a reading holds, each counted each time it is reached (what is shared counts as often as it is met; a slice's spare places count too). A statement '..UptoSaid' is the law's where the arguments, and the package variables that the reading takes, are together of bulk at most 1048576: NARROWER than '..Said'. Prove '..Said' where nothing that the law and all that it calls make is longer than what came in: it says more and counts as full. Else prove '..UptoSaid'. A law counts once. -/
mutual
def uptoBulk {H : Type} : DataW H → Nat
  | .lit (.string bytes) => bytes.length + 1
  | .lit _ => 1
  | .nil => 1
  | .ptr d => uptoBulk d + 1
  | .slice elems spare => uptoBulkAll elems + uptoBulkAll spare + 1
  | .agg parts => uptoBulkAll parts + 1
  | .iface _ d => uptoBulk d + 1
  | .map entries => uptoBulkEntries entries + 1
  | .held _ => 1
def uptoBulkAll {H : Type} : List (DataW H) → Nat
  | [] => 0
  | d :: r => uptoBulk d + uptoBulkAll r
def uptoBulkEntries {H : Type} : List (Lit × DataW H) → Nat
  | [] => 0
  | x :: r => uptoBulkEntry x + uptoBulkEntries r
def uptoBulkEntry {H : Type} : Lit × DataW H → Nat
  | (.string bytes, d) => bytes.length + uptoBulk d + 1
  | (_, d) => uptoBulk d + 1
 end
def uptoSmall : (H : Type) → List (DataW H) → Bool := fun _ ds => decide (uptoBulkAll ds ≤ 1048576)
def OpenSpec.upto (s : _root_.Go.ChangeSpec) : _root_.Go.OpenSpec := { _root_.Go.OpenSpec.ofChange s with cond := some uptoSmall }

/-- 'scutagelaw01.CalcSums', WHERE WHAT IT READS IS OF BULK AT MOST 1048576: true; the input reads as it did. -/
def calcSumsUptoRow : OpenClaim := { program := "ytmkmodfnpojgkaa", sum := "d4c157f958afb9e3e60ddd8a1c52a2f5934f1884cafb79314a3f95e4d0aaf983", func := "scutage/scutagelaw01.CalcSums", spec := "calcSums", apart := false, narrowed := true }
def CalcSumsUptoSaid : Prop := calcSumsUptoRow.holds Try.pinned (OpenSpec.upto calcSumsSpec)

/-- 'scutagelaw01.CalcClamps', WHERE WHAT IT READS IS OF BULK AT MOST 1048576: true; the input reads as it did. -/
def calcClampsUptoRow : OpenClaim := { program := "ytmkmodfnpojgkaa", sum := "d4c157f958afb9e3e60ddd8a1c52a2f5934f1884cafb79314a3f95e4d0aaf983", func := "scutage/scutagelaw01.CalcClamps", spec := "calcClamps", apart := false, narrowed := true }
def CalcClampsUptoSaid : Prop := calcClampsUptoRow.holds Try.pinned (OpenSpec.upto calcClampsSpec)

/-- 'scutagelaw01.CalcTells', WHERE WHAT IT READS IS OF BULK AT MOST 1048576: true; the input reads as it did. -/
def calcTellsUptoRow : OpenClaim := { program := "ytmkmodfnpojgkaa", sum := "d4c157f958afb9e3e60ddd8a1c52a2f5934f1884cafb79314a3f95e4d0aaf983", func := "scutage/scutagelaw01.CalcTells", spec := "calcTells", apart := false, narrowed := true }
def CalcTellsUptoSaid : Prop := calcTellsUptoRow.holds Try.pinned (OpenSpec.upto calcTellsSpec)

/-- 'scutagelaw01.CalcDivides', WHERE WHAT IT READS IS OF BULK AT MOST 1048576: true; the input reads as it did. -/
def calcDividesUptoRow : OpenClaim := { program := "ytmkmodfnpojgkaa", sum := "d4c157f958afb9e3e60ddd8a1c52a2f5934f1884cafb79314a3f95e4d0aaf983", func := "scutage/scutagelaw01.CalcDivides", spec := "calcDivides", apart := false, narrowed := true }
def CalcDividesUptoSaid : Prop := calcDividesUptoRow.holds Try.pinned (OpenSpec.upto calcDividesSpec)

end Rows
end Go.Proofs.Ytmkmodfnpojgkaa
